/-
  Strings made of bytes; rows of elements of several cells.
-/
import Derived.Test.YtnkjkkbjplneeaaSLVec
import Derived.Laws.IdiomStrings
namespace Go.SL
open Go.RowKit
set_option linter.unusedSimpArgs false
set_option linter.unusedVariables false
def strV (l : List UInt8) : Value := .string ⟨l.toArray⟩
theorem strV_inj {a b : List UInt8} : strV a = strV b ↔ a = b := by simp [strV]
def strsV (l : List (List UInt8)) : List Value := l.map strV
@[simp] theorem strsV_length (l : List (List UInt8)) : (strsV l).length = l.length := by simp [strsV]
theorem run_str_S {P : Program} {w : World} {src dst e : TypeId} (hs : P.underlying src = some (.slice e)) (he : P.underlying e = some (.int .u8)) (hd : P.underlying dst = some .string) {v : Value} {l : List UInt8}
    (h : Reads w 1 v l.length (u8s l)) : (convert src dst v).run P w = .ok (strV l) w := by
  rcases h.2 with ⟨rfl, h0⟩ | ⟨b, o, c, rfl, h1, h2, h3⟩
  · have : l = [] := List.eq_nil_of_length_eq_zero h0
    subst this
    show (convert src dst (.slice none 0 0)).run P w = _
    rw [run_convert_bytes_string w src dst e none 0 0 hs he hd]
    simp [Conv.bytesToString, strV, Sem.run_pure]
    rfl
  · refine run_convert_bytes_back w src dst e ⟨b, o, none⟩ c l hs he hd fun j hj => ?_
    rw [add_mk]
    refine h3 j _ ?_
    simp [u8s, hj]
/-- A row of elements of k cells each. -/
theorem flat_length (k : Nat) : ∀ (ls : List (List Value)), (∀ l ∈ ls, l.length = k) → ls.flatten.length = ls.length * k
  | [], _ => by simp
  | l :: ls, h => by
    rw [List.flatten_cons, List.length_append, h l (by simp), flat_length k ls (fun x hx => h x (by simp [hx])), List.length_cons, Nat.add_mul, Nat.one_mul, Nat.add_comm]
theorem flat_get (k : Nat) : ∀ (ls : List (List Value)), (∀ l ∈ ls, l.length = k) → ∀ (i j : Nat) (l : List Value), ls[i]? = some l → j < k → ls.flatten[i * k + j]? = l[j]?
  | [], _, i, j, l, h, _ => by simp at h
  | a :: ls, hk, 0, j, l, h, hj => by
    simp at h; subst h
    rw [List.flatten_cons, Nat.zero_mul, Nat.zero_add, List.getElem?_append_left (by rw [hk a (by simp)]; exact hj)]
  | a :: ls, hk, i + 1, j, l, h, hj => by
    have := flat_get k ls (fun x hx => hk x (by simp [hx])) i j l (by simpa using h) hj
    have ha := hk a (by simp)
    rw [List.flatten_cons, List.getElem?_append_right (by rw [ha, Nat.add_mul]; omega), ha, Nat.add_mul, Nat.one_mul, show i * k + k + j - k = i * k + j by omega]
    exact this
theorem flat_set (k : Nat) : ∀ (ls : List (List Value)), (∀ l ∈ ls, l.length = k) → ∀ (i j : Nat) (l : List Value) (v : Value), ls[i]? = some l → j < k → ls.flatten.set (i * k + j) v = (ls.set i (l.set j v)).flatten
  | [], _, i, j, l, v, h, _ => by simp at h
  | a :: ls, hk, 0, j, l, v, h, hj => by
    simp at h; subst h
    rw [List.flatten_cons, Nat.zero_mul, Nat.zero_add, List.set_append_left _ _ (by rw [hk a (by simp)]; exact hj), List.set_cons_zero, List.flatten_cons]
  | a :: ls, hk, i + 1, j, l, v, h, hj => by
    have := flat_set k ls (fun x hx => hk x (by simp [hx])) i j l v (by simpa using h) hj
    have ha := hk a (by simp)
    rw [List.flatten_cons, List.set_append_right _ _ (by rw [ha, Nat.add_mul]; omega), ha, Nat.add_mul, Nat.one_mul, show i * k + k + j - k = i * k + j by omega, this, List.set_cons_succ, List.flatten_cons]
end Go.SL
