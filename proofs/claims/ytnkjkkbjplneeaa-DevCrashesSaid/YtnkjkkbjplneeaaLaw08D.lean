/-
  law08: what is done with two devices on one power, and the document's: the state.
-/
import Derived.Test.YtnkjkkbjplneeaaLaw08C
import Derived.Test.YtnkjkkbjplneeaaRefRot
import Derived.Test.YtnkjkkbjplneeaaRef3
import Derived.Test.YtnkjkkbjplneeaaRef5
import Derived.Test.YtnkjkkbjplneeaaRef6
import Derived.Test.YtnkjkkbjplneeaaDevFlush
namespace Go.Proofs.Ytnkjkkbjplneeaa
open Go.RowKit Go.SL
set_option maxRecDepth 100000
set_option linter.unusedSimpArgs false
set_option linter.unusedVariables false
/-- Both sides, of the same thoughts; at most so many loose writes of a sector. -/
def TwoSt (W0 : World) (F : HProp) (t m0 m1 n : Nat) (w : World) : Prop := ∃ (g : TwoG) (p : PowA) (D0 D1 : DevA), g.t = t ∧ p.ok ∧ (D0.secs.length = m0 ∧ D1.secs.length = m1) ∧ (D0.Small n ∧ D1.Small n) ∧
  S W0 w (F * sideD g p D0 D1 * sideR g p D0 D1 * twoB g)
/-- One device of both, its power, and what is left. -/
def pickC (pw d0 d1 q e0 e1 : Nat) : Array Value := #[ptr pw, ptr d0, ptr d1, ptr q, ptr e0, ptr e1]
theorem DevA.Small.le {D : DevA} {n m : Nat} (h : D.Small n) (hn : n ≤ m) : D.Small m := fun s hs => Nat.le_trans (h s hs) hn
theorem TwoSt.pick {W0 w : World} {F : HProp} {t m0 m1 n : Nat} (h : TwoSt W0 F t m0 m1 n w) {k : Nat} (hk : k < 2) (h0 : m0 ≤ 12) (h1 : m1 ≤ 12) : ∃ (pw q d e : Nat) (p : PowA) (D : DevA) (R : HProp) (c : Array Value),
    p.ok ∧ D.Small n ∧ D.secs.length ≤ 12 ∧ c.size = 6 ∧ c[0]? = some (ptr pw) ∧ c[3]? = some (ptr q) ∧ c[1 + k]? = some (ptr d) ∧ c[4 + k]? = some (ptr e) ∧
    S W0 w (F * R * blk t (.cells c 34 (0, 0)) * powO pw p * rpowO q p * devO d pw D * rdevO e q D) ∧
    ∀ (w' : World) (p' : PowA) (D' : DevA), p'.ok → D'.Small (n + 1) → D'.secs.length = D.secs.length →
      S W0 w' (F * R * blk t (.cells c 34 (0, 0)) * powO pw p' * rpowO q p' * devO d pw D' * rdevO e q D') → TwoSt W0 F t m0 m1 (n + 1) w' := by
  obtain ⟨g, p, D0, D1, rfl, hp, ⟨rfl, rfl⟩, ⟨a0, a1⟩, hs⟩ := h
  unfold sideD sideR twoB at hs
  rcases (by omega : k = 0 ∨ k = 1) with rfl | rfl
  · refine ⟨g.pw, g.q, g.d0, g.e0, p, D0, devO g.d1 g.pw D1 * rdevO g.e1 g.q D1, _, hp, a0, h0, rfl, rfl, rfl, rfl, rfl, hs.perm, fun w' p' D' b1 b2 b3 h => ?_⟩
    refine ⟨g, p', D', D1, rfl, b1, ⟨b3, rfl⟩, ⟨b2, a1.le (by omega)⟩, ?_⟩
    unfold sideD sideR twoB
    exact h.perm
  · refine ⟨g.pw, g.q, g.d1, g.e1, p, D1, devO g.d0 g.pw D0 * rdevO g.e0 g.q D0, _, hp, a1, h1, rfl, rfl, rfl, rfl, rfl, hs.perm, fun w' p' D' b1 b2 b3 h => ?_⟩
    refine ⟨g, p', D0, D', rfl, b1, ⟨rfl, b3⟩, ⟨a0.le (by omega), b2⟩, ?_⟩
    unfold sideD sideR twoB
    exact h.perm
/-- The device that an act names. -/
def ofK (n : Int) : Nat := if n.tmod 2 = 0 then 0 else 1
theorem ofK_lt (n : Int) : ofK n < 2 := by unfold ofK; split <;> omega
theorem ofK_cases (n : Int) : (n.tmod 2 = 0 ∧ ofK n = 0) ∨ (n.tmod 2 = 1 ∧ ofK n = 1) ∨ (n.tmod 2 = -1 ∧ ofK n = 1) := by
  have h := Int.tmod_two_eq n
  unfold ofK
  rcases h with h | h | h <;> simp [h]
namespace DevA
theorem spend_ok {p : PowA} (h : p.ok) : p.spendS.ok := by
  unfold PowA.spendS
  unfold PowA.ok at *
  split
  · exact h
  · split <;> simp only <;> omega
theorem fuse_ok {p : PowA} (h : p.ok) (n : Int) : (p.fuseS n).ok := by
  unfold PowA.fuseS
  unfold PowA.ok at *
  split
  · exact h
  · split
    · exact h
    · simp only; omega
theorem writeP_ok {p : PowA} (h : p.ok) (D : DevA) (at_ : Int) (l : List UInt8) : (D.writeP p at_ l).ok := by
  unfold writeP
  repeat' split
  all_goals first | exact h | exact spend_ok h
theorem flushP_ok {p : PowA} (h : p.ok) : (flushP p).ok := by
  unfold flushP
  split
  · exact h
  · exact spend_ok h
theorem readS_secs (D : DevA) (p : PowA) (at_ : Int) : (D.readS p at_).secs = D.secs := by
  unfold readS
  repeat' split
  all_goals rfl
theorem writeS_len (D : DevA) (p : PowA) (at_ : Int) (l : List UInt8) : (D.writeS p at_ l).secs.length = D.secs.length := by
  unfold writeS
  repeat' split
  all_goals simp
theorem writeS_small {D : DevA} {n : Nat} (h : D.Small n) (p : PowA) (at_ : Int) (l : List UInt8) : (D.writeS p at_ l).Small (n + 1) := by
  have h' : D.Small (n + 1) := h.le (by omega)
  unfold writeS
  repeat' split
  all_goals first | exact h' | skip
  intro s hs
  obtain ⟨i, hi⟩ := List.getElem?_of_mem hs
  rw [List.getElem?_modify] at hi
  cases hx : D.secs[i]? with
  | none => rw [hx] at hi; simp at hi
  | some s0 =>
    rw [hx] at hi
    have h0 := h s0 (List.mem_of_getElem? hx)
    have hi2 : (if at_.toNat = i then addLoose s0 l else s0) = s := Option.some.inj hi
    rw [← hi2]
    split
    · simp [addLoose]; exact h0
    · simp; omega
theorem flushS_len (D : DevA) (p : PowA) : (flushS p D).secs.length = D.secs.length := by
  unfold flushS
  repeat' split
  all_goals simp
theorem flushS_small {D : DevA} {n : Nat} (h : D.Small n) (p : PowA) : (flushS p D).Small n := by
  unfold flushS
  split
  · exact h
  split
  · exact h
  intro s hs
  obtain ⟨s0, h0, rfl⟩ := List.mem_map.1 hs
  unfold flushed
  split
  · exact h s0 h0
  · simp
theorem rotS_len (D : DevA) (at_ bit turn : Int) : (D.rotS at_ bit turn).secs.length = D.secs.length := by
  unfold rotS
  split <;> simp
theorem rotS_small {D : DevA} {n : Nat} (h : D.Small n) (at_ bit turn : Int) : (D.rotS at_ bit turn).Small n := by
  unfold rotS
  split
  · intro s hs
    rcases List.mem_or_eq_of_mem_set hs with h1 | rfl
    · exact h s h1
    · simp
  · exact h
theorem fitted_len (D : DevA) (fates : List Int) : (D.fitted fates).secs.length = D.secs.length := D.fatesN_length _ _
theorem crashD_small (D : DevA) (fates : List Int) (n : Nat) : (D.crashD fates).Small n := fun s hs => by
  have : s.loose = [] := D.fatesN_loose _ _ s hs
  rw [this]; simp
theorem looseL_le (D : DevA) : D.looseL.length ≤ D.secs.length := by
  unfold looseL looseN
  have := List.length_filterMap_le D.looseAt (List.range D.secs.length)
  simpa using this
end DevA
end Go.Proofs.Ytnkjkkbjplneeaa
