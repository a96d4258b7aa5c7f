/-
  A slice that is read, of which an empty one may lie anywhere.
-/
import Derived.Test.YtnkjkkbjplneeaaSLVec
namespace Go.SL
open Go.RowKit
set_option linter.unusedVariables false
def ReadsW (w : World) (k : Nat) (v : Value) (n : Nat) (cs : List Value) : Prop :=
  cs.length = n * k ∧ n ≤ maxLen ∧ ∃ ad c, v = .slice ad n c ∧ (0 < n → ∃ b o, ad = some ⟨b, o, none⟩ ∧ ∀ j u, cs[j]? = some u → w.cell? ⟨b, o + j, none⟩ = some u)
theorem Reads.wide {w : World} {k : Nat} {v : Value} {n : Nat} {cs : List Value} (h : Reads w k v n cs) : ReadsW w k v n cs := by
  refine ⟨h.1, ?_⟩
  rcases h.2 with ⟨rfl, rfl⟩ | ⟨b, o, c, rfl, h1, h2, h3⟩
  · exact ⟨by simp [maxLen], none, 0, rfl, fun h => by omega⟩
  · exact ⟨by omega, _, c, rfl, fun _ => ⟨b, o, rfl, h3⟩⟩
theorem ReadsW.shape {w : World} {k : Nat} {v : Value} {n : Nat} {cs : List Value} (h : ReadsW w k v n cs) : ∃ ad m, v = .slice ad n m := by
  obtain ⟨_, _, ad, c, rfl, _⟩ := h
  exact ⟨ad, c, rfl⟩
theorem ReadsW.addr {w : World} {k : Nat} {ad : Option Addr} {m : Nat} {n : Nat} {cs : List Value} (h : ReadsW w k (.slice ad n m) n cs) (hn : 0 < n) : ∃ b o, ad = some ⟨b, o, none⟩ := by
  obtain ⟨_, _, ad', c, e, h1⟩ := h
  cases e
  obtain ⟨b, o, h2, _⟩ := h1 hn
  exact ⟨b, o, h2⟩
theorem ReadsW.cell {w : World} {k : Nat} {b o n m : Nat} {cs : List Value} (h : ReadsW w k (.slice (some ⟨b, o, none⟩) n m) n cs) {j : Nat} {u : Value} (hj : cs[j]? = some u) : w.cell? ⟨b, o + j, none⟩ = some u := by
  obtain ⟨h0, _, ad', c, e, h1⟩ := h
  cases e
  have hn : 0 < n := by
    rcases Nat.eq_zero_or_pos n with h | h
    · subst h
      have : cs = [] := List.eq_nil_of_length_eq_zero (by simpa using h0)
      subst this; simp at hj
    · exact h
  obtain ⟨b', o', e', h2⟩ := h1 hn
  cases e'
  exact h2 j u hj
end Go.SL
