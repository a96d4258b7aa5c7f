/-
  A small logic of owned blocks of memory: a heap assertion says which blocks hold what; 'S W0 w A': below W0's heap nothing has turned, and the blocks from there on that A names hold what A says.
-/
import Derived.WalkKit
import Derived.WalkSpells
import Derived.Lib.Hide
import Derived.Lib.MinMax
import Derived.BigQuiet
import Derived.Deep.QuietTactic
import Derived.WalkLawsBesides
namespace Go.SL
open Go.RowKit
def Hp := Nat → Option Obj
def HProp := Hp → Prop
def Hp.none : Hp := fun _ => Option.none
def Hp.dis (h k : Hp) : Prop := ∀ b, h b = Option.none ∨ k b = Option.none
def Hp.uni (h k : Hp) : Hp := fun b => (h b).or (k b)
def star (A B : HProp) : HProp := fun h => ∃ h1 h2, A h1 ∧ B h2 ∧ Hp.dis h1 h2 ∧ h = Hp.uni h1 h2
instance : Mul HProp := ⟨star⟩
def emp : HProp := fun h => h = Hp.none
def ex {α : Sort _} (A : α → HProp) : HProp := fun h => ∃ x, A x h
def pr (p : Prop) : HProp := fun h => p ∧ h = Hp.none
def blk (b : Nat) (o : Obj) : HProp := fun h => h = fun i => if i = b then some o else Option.none
theorem star_comm (A B : HProp) : A * B = B * A := by
  funext h
  apply propext
  constructor <;> rintro ⟨h1, h2, a, b, d, rfl⟩ <;> refine ⟨h2, h1, b, a, fun i => (d i).symm, ?_⟩ <;> funext i <;> rcases d i with e | e <;> simp [Hp.uni, e]
theorem star_assoc (A B C : HProp) : (A * B) * C = A * (B * C) := by
  funext h
  apply propext
  constructor
  · rintro ⟨_, h3, ⟨h1, h2, a, b, d, rfl⟩, c, d', rfl⟩
    refine ⟨h1, Hp.uni h2 h3, a, ⟨h2, h3, b, c, fun i => ?_, rfl⟩, fun i => ?_, ?_⟩
    · have := d' i; have := d i; simp [Hp.uni] at *; grind
    · have := d' i; have := d i; simp [Hp.uni] at *; grind
    · funext i; simp [Hp.uni, Option.or_assoc]
  · rintro ⟨h1, _, a, ⟨h2, h3, b, c, d, rfl⟩, d', rfl⟩
    refine ⟨Hp.uni h1 h2, h3, ⟨h1, h2, a, b, fun i => ?_, rfl⟩, c, fun i => ?_, ?_⟩
    · have := d' i; have := d i; simp [Hp.uni] at *; grind
    · have := d' i; have := d i; simp [Hp.uni] at *; grind
    · funext i; simp [Hp.uni, Option.or_assoc]
instance : Std.Associative (α := HProp) (· * ·) := ⟨star_assoc⟩
instance : Std.Commutative (α := HProp) (· * ·) := ⟨star_comm⟩
theorem star_emp (A : HProp) : A * emp = A := by
  funext h
  apply propext
  constructor
  · rintro ⟨h1, h2, a, rfl, d, rfl⟩
    have : Hp.uni h1 Hp.none = h1 := by funext i; simp [Hp.uni, Hp.none]
    rw [this]; exact a
  · intro a
    exact ⟨h, Hp.none, a, rfl, fun i => .inr rfl, by funext i; simp [Hp.uni, Hp.none]⟩
theorem emp_star (A : HProp) : emp * A = A := by rw [star_comm, star_emp]
theorem star_ex {α : Sort _} (A : HProp) (B : α → HProp) : A * ex B = ex fun x => A * B x := by
  funext h
  apply propext
  constructor
  · rintro ⟨h1, h2, a, ⟨x, b⟩, d, rfl⟩; exact ⟨x, h1, h2, a, b, d, rfl⟩
  · rintro ⟨x, h1, h2, a, b, d, rfl⟩; exact ⟨h1, h2, a, ⟨x, b⟩, d, rfl⟩
theorem ex_star {α : Sort _} (A : HProp) (B : α → HProp) : ex B * A = ex fun x => B x * A := by
  rw [star_comm, star_ex]; congr 1; funext x; exact star_comm _ _
theorem pr_true : pr True = emp := by funext h; simp [pr, emp]
theorem star_mono {A A' B B' : HProp} (ha : ∀ h, A h → A' h) (hb : ∀ h, B h → B' h) : ∀ h, (A * B) h → (A' * B') h := by
  rintro h ⟨h1, h2, a, b, d, rfl⟩
  exact ⟨h1, h2, ha _ a, hb _ b, d, rfl⟩
/-- Below W0's heap the world is W0's; from there on there are the blocks of A. -/
def S (W0 w : World) (A : HProp) : Prop := Below W0.heap.size W0 w ∧ ∃ h, A h ∧ ∀ b o, h b = some o → w.heap[b]? = some o ∧ W0.heap.size ≤ b
section
variable {W0 w : World} {A B F : HProp}
theorem S.below (h : S W0 w A) : Below W0.heap.size W0 w := h.1
theorem S.perm (h : S W0 w A) (e : A = B := by ac_rfl) : S W0 w B := e ▸ h
theorem S.to (h : S W0 w A) (e : A = B) : S W0 w B := e ▸ h
theorem S.to2 {α : Type} {G : α → HProp} {x y : α} (h : S W0 w (F * G x)) (e : x = y) : S W0 w (F * G y) := e ▸ h
theorem S.mono (h : S W0 w A) (e : ∀ k, A k → B k) : S W0 w B := ⟨h.1, h.2.imp fun k hk => ⟨e k hk.1, hk.2⟩⟩
theorem S.left (h : S W0 w (A * B)) : S W0 w A := by
  obtain ⟨hb, k, ⟨h1, h2, a, b, d, rfl⟩, hk⟩ := h
  exact ⟨hb, h1, a, fun i o hi => hk i o (by simp [Hp.uni, hi])⟩
theorem S.right (h : S W0 w (A * B)) : S W0 w B := by rw [star_comm] at h; exact h.left
theorem S.right_mono (h : S W0 w (F * A)) (e : ∀ k, A k → B k) : S W0 w (F * B) := h.mono (star_mono (fun _ x => x) e)
theorem S.of_ex {α : Sort _} {A : α → HProp} (h : S W0 w (F * ex A)) : ∃ x, S W0 w (F * A x) := by
  rw [star_ex] at h
  obtain ⟨hb, k, ⟨x, hx⟩, hk⟩ := h
  exact ⟨x, hb, k, hx, hk⟩
theorem S.to_ex {α : Sort _} {A : α → HProp} (x : α) (h : S W0 w (F * A x)) : S W0 w (F * ex A) := by
  rw [star_ex]
  obtain ⟨hb, k, hx, hk⟩ := h
  exact ⟨hb, k, ⟨x, hx⟩, hk⟩
theorem S.of_pr {p : Prop} (h : S W0 w (F * pr p)) : p ∧ S W0 w F := by
  obtain ⟨hb, k, ⟨h1, h2, a, ⟨b, rfl⟩, d, rfl⟩, hk⟩ := h
  exact ⟨b, hb, h1, a, fun i o hi => hk i o (by simp [Hp.uni, hi])⟩
theorem S.to_pr {p : Prop} (hp : p) (h : S W0 w F) : S W0 w (F * pr p) := by
  have : pr p = emp := by funext h; simp [pr, emp, hp]
  rw [this, star_emp]; exact h
theorem S.heap {b : Nat} {o : Obj} (h : S W0 w (F * blk b o)) : w.heap[b]? = some o := by
  obtain ⟨hb, k, ⟨h1, h2, a, rfl, d, rfl⟩, hk⟩ := h
  refine (hk b o ?_).1
  rcases d b with e | e
  · simp [Hp.uni, e]
  · simp at e
theorem S.ge {b : Nat} {o : Obj} (h : S W0 w (F * blk b o)) : W0.heap.size ≤ b := by
  obtain ⟨hb, k, ⟨h1, h2, a, rfl, d, rfl⟩, hk⟩ := h
  refine (hk b o ?_).2
  rcases d b with e | e
  · simp [Hp.uni, e]
  · simp at e
theorem S.lt {b : Nat} {o : Obj} (h : S W0 w (F * blk b o)) : b < w.heap.size := (Array.getElem?_eq_some_iff.1 h.heap).1
theorem S.ne {b c : Nat} {o o' : Obj} (h : S W0 w (F * blk b o * blk c o')) : b ≠ c := by
  obtain ⟨hb, k, ⟨h1, h2, ⟨h3, h4, a, rfl, d', rfl⟩, rfl, d, rfl⟩, hk⟩ := h
  rintro rfl
  rcases d b with e | e
  · simp [Hp.uni] at e
  · simp at e
/-- A change of the world at an owned block. -/
theorem S.turn {w' : World} {b : Nat} {o o' : Obj} (h : S W0 w (F * blk b o)) (hos : w'.os = w.os) (htp : w'.tape = w.tape) (hout : w'.output = w.output)
    (hsz : w'.heap.size = w.heap.size) (hb : w'.heap[b]? = some o') (hne : ∀ i, i ≠ b → w'.heap[i]? = w.heap[i]?) : S W0 w' (F * blk b o') := by
  have hge := h.ge
  obtain ⟨hbe, k, ⟨h1, h2, a, rfl, d, rfl⟩, hk⟩ := h
  refine ⟨⟨hos.trans hbe.os, htp.trans hbe.tape, hout.trans hbe.output, by rw [hsz]; exact hbe.size, fun i hi => ?_⟩, _, ⟨h1, _, a, rfl, fun i => ?_, rfl⟩, fun i q hi => ?_⟩
  · rw [hne i (by omega)]; exact hbe.block i hi
  · rcases d i with e | e
    · exact .inl e
    · right; simp only at e ⊢; split at e
      · cases e
      · rename_i hh; rw [if_neg hh]
  · by_cases hib : i = b
    · subst hib
      have e1 : h1 i = Option.none := by rcases d i with e | e <;> simp_all
      simp [Hp.uni, e1] at hi
      subst hi
      exact ⟨hb, hge⟩
    · rw [hne i hib]
      refine hk i q ?_
      simp [Hp.uni, hib] at hi ⊢
      exact hi
theorem S.set {b i : Nat} {c : Array Value} {T : TypeId} {fr : Nat × Nat} {v : Value} (h : S W0 w (F * blk b (.cells c T fr))) :
    S W0 (w.setCell ⟨b, i, Option.none⟩ v) (F * blk b (.cells (c.setIfInBounds i v) T fr)) := by
  have hh := h.heap
  refine h.turn rfl rfl rfl (by simp [World.setCell]) ?_ fun j hj => Below.heap_setCell _ _ _ _ hj
  simp [World.setCell, Array.getElem?_modify, hh]
theorem S.setObj {b : Nat} {o o' : Obj} (h : S W0 w (F * blk b o)) : S W0 { w with heap := w.heap.setIfInBounds b o' } (F * blk b o') := by
  have hl := h.lt
  refine h.turn rfl rfl rfl (by simp) ?_ fun j hj => ?_
  · simp [hl]
  · simp [Array.getElem?_setIfInBounds_ne (Ne.symm hj)]
theorem S.alloc (h : S W0 w F) (o : Obj) : S W0 (w.alloc o) (F * blk w.heap.size o) := by
  obtain ⟨hbe, k, hk1, hk⟩ := h
  have hlt : ∀ i q, k i = some q → i < w.heap.size := fun i q hi => (Array.getElem?_eq_some_iff.1 (hk i q hi).1).1
  refine ⟨hbe.alloc hbe.size o, _, ⟨k, _, hk1, rfl, fun i => ?_, rfl⟩, fun i q hi => ?_⟩
  · by_cases hi : i = w.heap.size
    · left
      cases e : k i with
      | none => rfl
      | some q => have := hlt i q e; omega
    · right; simp [hi]
  · by_cases hi' : i = w.heap.size
    · subst hi'
      have e : k w.heap.size = Option.none := by
        cases e : k w.heap.size with
        | none => rfl
        | some q => have := hlt _ q e; omega
      simp [Hp.uni, e] at hi
      subst hi
      refine ⟨?_, hbe.size⟩
      show (w.heap.push o)[w.heap.size]? = some o
      simp
    · simp [Hp.uni, hi'] at hi
      refine ⟨?_, (hk i q hi).2⟩
      rw [Below.heap_alloc _ _ _ (hlt i q hi)]
      exact (hk i q hi).1
theorem S.drew (h : S W0 w A) : S W0 w.drew A := ⟨h.1.drew, h.2⟩
theorem S.old (h : S W0 w A) {p : Addr} (hp : p.block < W0.heap.size) : w.cell? p = W0.cell? p := h.1.cell hp
theorem S.start (W : World) : S W W emp := ⟨Below.refl _ _, Hp.none, rfl, fun _ _ h => by cases h⟩
end
section
variable {W0 w : World} {A B C D E G H I J K : HProp}
theorem S.p1 (h : S W0 w (A * B * C)) : S W0 w (A * C * B) := h.perm
theorem S.p2 (h : S W0 w (A * B * C * D)) : S W0 w (A * C * D * B) := h.perm
theorem S.q2 (h : S W0 w (A * C * D * B)) : S W0 w (A * B * C * D) := h.perm
theorem S.p3 (h : S W0 w (A * B * C * D * E)) : S W0 w (A * C * D * E * B) := h.perm
theorem S.q3 (h : S W0 w (A * C * D * E * B)) : S W0 w (A * B * C * D * E) := h.perm
theorem S.p4 (h : S W0 w (A * B * C * D * E * G)) : S W0 w (A * C * D * E * G * B) := h.perm
theorem S.q4 (h : S W0 w (A * C * D * E * G * B)) : S W0 w (A * B * C * D * E * G) := h.perm
theorem S.p5 (h : S W0 w (A * B * C * D * E * G * H)) : S W0 w (A * C * D * E * G * H * B) := h.perm
theorem S.q5 (h : S W0 w (A * C * D * E * G * H * B)) : S W0 w (A * B * C * D * E * G * H) := h.perm
theorem S.p6 (h : S W0 w (A * B * C * D * E * G * H * I)) : S W0 w (A * C * D * E * G * H * I * B) := h.perm
theorem S.q6 (h : S W0 w (A * C * D * E * G * H * I * B)) : S W0 w (A * B * C * D * E * G * H * I) := h.perm
theorem S.p7 (h : S W0 w (A * B * C * D * E * G * H * I * J)) : S W0 w (A * C * D * E * G * H * I * J * B) := h.perm
theorem S.q7 (h : S W0 w (A * C * D * E * G * H * I * J * B)) : S W0 w (A * B * C * D * E * G * H * I * J) := h.perm
theorem S.p8 (h : S W0 w (A * B * C * D * E * G * H * I * J * K)) : S W0 w (A * C * D * E * G * H * I * J * K * B) := h.perm
theorem S.q8 (h : S W0 w (A * C * D * E * G * H * I * J * K * B)) : S W0 w (A * B * C * D * E * G * H * I * J * K) := h.perm
theorem S.assoc (h : S W0 w (A * (B * C))) : S W0 w (A * B * C) := by rw [star_assoc]; exact h
theorem S.unassoc (h : S W0 w (A * B * C)) : S W0 w (A * (B * C)) := by rw [← star_assoc]; exact h
end
section
variable {w : World}
theorem cell_at {b i : Nat} {c : Array Value} {T : TypeId} {fr : Nat × Nat} (h : w.heap[b]? = some (.cells c T fr)) : w.cell? ⟨b, i, Option.none⟩ = c[i]? := by simp [World.cell?, h]
theorem free_at {b i : Nat} {c : Array Value} {T : TypeId} (h : w.heap[b]? = some (.cells c T (0, 0))) : w.frozen? ⟨b, i, Option.none⟩ = false := by simp [World.frozen?, h]
end
end Go.SL
namespace Go.SL
open Go.RowKit
/-! ### Rows of cells that the call owns -/
def stars : List HProp → HProp
  | [] => emp
  | A :: l => A * stars l
theorem stars_set (l : List HProp) (i : Nat) (A : HProp) (h : i < l.length) : stars (l.set i A) = stars (l.set i emp) * A := by
  induction l generalizing i with
  | nil => simp at h
  | cons B l ih =>
    cases i with
    | zero => simp only [List.set_cons_zero, stars, emp_star]; exact star_comm _ _
    | succ i => simp only [List.set_cons_succ, stars]; rw [ih i (by simpa using h), star_assoc]
theorem stars_get (l : List HProp) (i : Nat) (h : i < l.length) : stars l = stars (l.set i emp) * l[i] := by
  have := stars_set l i l[i] h
  rwa [List.set_getElem_self] at this
theorem stars_append (l k : List HProp) : stars (l ++ k) = stars l * stars k := by
  induction l with
  | nil => simp [stars, emp_star]
  | cons A l ih => simp only [List.cons_append, stars, ih, star_assoc]
theorem stars_snoc (l : List HProp) (A : HProp) : stars (l ++ [A]) = stars l * A := by rw [stars_append]; simp [stars, star_emp]
/-- A slice of the call's own: n elements of k cells each, at the head of a block, or nil. -/
def vecB (T k : Nat) (v : Value) (n : Nat) (cs : List Value) : HProp := fun h =>
  (v = .slice none 0 0 ∧ n = 0 ∧ cs = [] ∧ h = Hp.none) ∨
  ∃ g m spare, v = .slice (some ⟨g, 0, none⟩) n m ∧ cs.length = n * k ∧ spare.length = (m - n) * k ∧ n ≤ m ∧ m ≤ maxLen ∧ blk g (.cells (cs ++ spare).toArray T (0, 0)) h
/-- Its shape: where it lies. -/
theorem S.vec {W0 w : World} {F : HProp} {T k : Nat} {v : Value} {n : Nat} {cs : List Value} (h : S W0 w (F * vecB T k v n cs)) :
    (v = .slice none 0 0 ∧ n = 0 ∧ cs = [] ∧ S W0 w F) ∨
    ∃ g m spare, v = .slice (some ⟨g, 0, none⟩) n m ∧ cs.length = n * k ∧ spare.length = (m - n) * k ∧ n ≤ m ∧ m ≤ maxLen ∧ S W0 w (F * blk g (.cells (cs ++ spare).toArray T (0, 0))) := by
  obtain ⟨hb, q, ⟨h1, h2, a, b, d, rfl⟩, hk⟩ := h
  rcases b with ⟨e1, e2, e3, rfl⟩ | ⟨g, m, spare, e1, e2, e3, e4, e5, b⟩
  · exact .inl ⟨e1, e2, e3, hb, h1, a, fun i o hi => hk i o (by simp [Hp.uni, hi])⟩
  · exact .inr ⟨g, m, spare, e1, e2, e3, e4, e5, hb, _, ⟨h1, h2, a, b, d, rfl⟩, hk⟩
theorem S.to_vec {W0 w : World} {F : HProp} {T k g m n : Nat} {cs spare : List Value} (h : S W0 w (F * blk g (.cells (cs ++ spare).toArray T (0, 0)))) (e2 : cs.length = n * k)
    (e3 : spare.length = (m - n) * k) (e4 : n ≤ m) (e5 : m ≤ maxLen) : S W0 w (F * vecB T k (.slice (some ⟨g, 0, none⟩) n m) n cs) :=
  h.right_mono fun _ hb => .inr ⟨g, m, spare, rfl, e2, e3, e4, e5, hb⟩
theorem S.to_vec_nil {W0 w : World} {F : HProp} {T k : Nat} (h : S W0 w F) : S W0 w (F * vecB T k (.slice none 0 0) 0 []) := by
  have : S W0 w (F * emp) := by rw [star_emp]; exact h
  exact this.right_mono fun _ hb => .inl ⟨rfl, rfl, rfl, hb⟩
/-- The bytes, the ints of a row. -/
def u8s (l : List UInt8) : List Value := l.map fun c => .int .u8 (c.toNat : Int)
def i64s (l : List Int) : List Value := l.map fun c => .int .i64 c
def bytesV (v : Value) (T : Nat) (l : List UInt8) : HProp := vecB T 1 v l.length (u8s l)
theorem u8s_length (l : List UInt8) : (u8s l).length = l.length := by simp [u8s]
theorem i64s_length (l : List Int) : (i64s l).length = l.length := by simp [i64s]
end Go.SL
