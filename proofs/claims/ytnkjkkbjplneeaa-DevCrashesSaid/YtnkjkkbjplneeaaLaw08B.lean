/-
  Both devices behind a crash.
-/
import Derived.Test.YtnkjkkbjplneeaaLaw08A
import Derived.Test.YtnkjkkbjplneeaaRef8
namespace Go.Proofs.Ytnkjkkbjplneeaa
open Go.RowKit Go.SL
set_option maxRecDepth 100000
set_option linter.unusedSimpArgs false
set_option linter.unusedVariables false
namespace DevA
/-- A device behind a crash whose fates were made to fit. -/
def fitted (D : DevA) (fates : List Int) : DevA := D.crashD (fitL D.looseL fates)
theorem fit_ok (D : DevA) (fates : List Int) : D.crashE (fitL D.looseL fates) = 0 := by
  have hl : (fitL D.looseL fates).length = min fates.length D.looseL.length := fitN_length (Nat.min_le_left _ _) (Nat.min_le_right _ _)
  unfold crashE
  rw [if_neg (by rw [hl]; omega)]
  have : D.fateOk (fitL D.looseL fates) (fitL D.looseL fates).length = true := by
    unfold fateOk
    rw [List.all_eq_true]
    intro j _
    unfold fateAt
    cases hx : D.looseL[j]? with
    | none => rfl
    | some x =>
      cases hk : (fitL D.looseL fates)[j]? with
      | none => rfl
      | some k =>
        obtain ⟨i, s, _, _, rfl⟩ := looseL_at hx
        unfold fitL fitN at hk
        rw [List.getElem?_map] at hk
        obtain ⟨q, hq, rfl⟩ := Option.map_eq_some_iff.1 hk
        rw [List.getElem?_take] at hq
        split at hq
        · have := List.getElem?_zip_eq_some.1 hq
          rw [hx] at this
          have h2 := Option.some.inj this.2
          have h3 := fitK_in (k := q.1) (m := q.2.2) (by rw [← h2]; simp)
          rw [← h2] at h3 ⊢
          simp only [Bool.and_eq_true, decide_eq_true_eq]
          exact h3
        · cases hq
  rw [this]; rfl
end DevA
def ptr (b : Nat) : Value := .pointer (some ⟨b, 0, none⟩)
def twoC (pw d0 d1 q e0 e1 : Nat) : Array Value := #[ptr pw, ptr d0, ptr d1, ptr q, ptr e0, ptr e1]
def pairO (b : Bool) (d e pw q pw2 q2 : Nat) (D D' : DevA) : HProp := if b = true then devO d pw2 D' * rdevO e q2 D' else devO d pw D * rdevO e q D
section
variable (W0 : World) (F : HProp) (t pw q pw2 q2 : Nat) (p : PowA) (D0 D1 : DevA) (fates : List Int)
/-- Midway through a crash of both: the first so many are behind it. -/
def CrSt (i : Nat) (w : World) : Prop := ∃ d0 d1 e0 e1, S W0 w (F * powO pw p * rpowO q p * powO pw2 .new * rpowO q2 .new * blk t (.cells (twoC pw d0 d1 q e0 e1) 34 (0, 0)) *
  pairO (decide (0 < i)) d0 e0 pw q pw2 q2 D0 (D0.fitted fates) * pairO (decide (1 < i)) d1 e1 pw q pw2 q2 D1 (D1.fitted fates))
theorem CrSt.at {i : Nat} {w : World} (h : CrSt W0 F t pw q pw2 q2 p D0 D1 fates i w) (hi : i < 2) : ∃ (d e : Nat) (D : DevA) (R : HProp) (c : Array Value), (D = D0 ∨ D = D1) ∧ c.size = 6 ∧ c[1 + i]? = some (ptr d) ∧ c[4 + i]? = some (ptr e) ∧
    S W0 w (F * R * blk t (.cells c 34 (0, 0)) * powO pw2 .new * rpowO q2 .new * devO d pw D * rdevO e q D) ∧
    ∀ (w' : World) (x y : Nat), S W0 w' (F * R * blk t (.cells ((c.setIfInBounds (1 + i) (ptr x)).setIfInBounds (4 + i) (ptr y)) 34 (0, 0)) * powO pw2 .new * rpowO q2 .new * devO x pw2 (D.fitted fates) * rdevO y q2 (D.fitted fates)) →
      CrSt W0 F t pw q pw2 q2 p D0 D1 fates (i + 1) w' := by
  obtain ⟨d0, d1, e0, e1, hs⟩ := h
  rcases (by omega : i = 0 ∨ i = 1) with rfl | rfl
  · refine ⟨d0, e0, D0, powO pw p * rpowO q p * pairO false d1 e1 pw q pw2 q2 D1 (D1.fitted fates), twoC pw d0 d1 q e0 e1, .inl rfl, rfl, rfl, rfl, ?_, fun w' x y hs' => ⟨x, d1, y, e1, ?_⟩⟩
    · have hs2 : S W0 w (F * powO pw p * rpowO q p * powO pw2 .new * rpowO q2 .new * blk t (.cells (twoC pw d0 d1 q e0 e1) 34 (0, 0)) * (devO d0 pw D0 * rdevO e0 q D0) * pairO false d1 e1 pw q pw2 q2 D1 (D1.fitted fates)) := hs
      exact hs2.perm
    · show S W0 w' (F * powO pw p * rpowO q p * powO pw2 .new * rpowO q2 .new * blk t (.cells (twoC pw x d1 q y e1) 34 (0, 0)) * (devO x pw2 (D0.fitted fates) * rdevO y q2 (D0.fitted fates)) * pairO false d1 e1 pw q pw2 q2 D1 (D1.fitted fates))
      have hs2 : S W0 w' (F * (powO pw p * rpowO q p * pairO false d1 e1 pw q pw2 q2 D1 (D1.fitted fates)) * blk t (.cells (twoC pw x d1 q y e1) 34 (0, 0)) * powO pw2 .new * rpowO q2 .new * devO x pw2 (D0.fitted fates) * rdevO y q2 (D0.fitted fates)) := hs'
      exact hs2.perm
  · refine ⟨d1, e1, D1, powO pw p * rpowO q p * pairO true d0 e0 pw q pw2 q2 D0 (D0.fitted fates), twoC pw d0 d1 q e0 e1, .inr rfl, rfl, rfl, rfl, ?_, fun w' x y hs' => ⟨d0, x, e0, y, ?_⟩⟩
    · have hs2 : S W0 w (F * powO pw p * rpowO q p * powO pw2 .new * rpowO q2 .new * blk t (.cells (twoC pw d0 d1 q e0 e1) 34 (0, 0)) * pairO true d0 e0 pw q pw2 q2 D0 (D0.fitted fates) * (devO d1 pw D1 * rdevO e1 q D1)) := hs
      exact hs2.perm
    · show S W0 w' (F * powO pw p * rpowO q p * powO pw2 .new * rpowO q2 .new * blk t (.cells (twoC pw d0 x q e0 y) 34 (0, 0)) * pairO true d0 e0 pw q pw2 q2 D0 (D0.fitted fates) * (devO x pw2 (D1.fitted fates) * rdevO y q2 (D1.fitted fates)))
      have hs2 : S W0 w' (F * (powO pw p * rpowO q p * pairO true d0 e0 pw q pw2 q2 D0 (D0.fitted fates)) * blk t (.cells (twoC pw d0 x q e0 y) 34 (0, 0)) * powO pw2 .new * rpowO q2 .new * devO x pw2 (D1.fitted fates) * rdevO y q2 (D1.fitted fates)) := hs'
      exact hs2.perm
theorem CrSt.done {w : World} (h : CrSt W0 F t pw q pw2 q2 p D0 D1 fates 2 w) : ∃ d0 d1 e0 e1, S W0 w (F * powO pw2 .new * rpowO q2 .new * devO d0 pw2 (D0.fitted fates) * devO d1 pw2 (D1.fitted fates) * rdevO e0 q2 (D0.fitted fates) * rdevO e1 q2 (D1.fitted fates) * blk t (.cells (twoC pw d0 d1 q e0 e1) 34 (0, 0))) := by
  obtain ⟨d0, d1, e0, e1, hs⟩ := h
  have hs2 : S W0 w (F * powO pw p * rpowO q p * powO pw2 .new * rpowO q2 .new * blk t (.cells (twoC pw d0 d1 q e0 e1) 34 (0, 0)) * (devO d0 pw2 (D0.fitted fates) * rdevO e0 q2 (D0.fitted fates)) * (devO d1 pw2 (D1.fitted fates) * rdevO e1 q2 (D1.fitted fates))) := hs
  refine ⟨d0, d1, e0, e1, ?_⟩
  have hs3 : S W0 w (F * powO pw2 .new * rpowO q2 .new * devO d0 pw2 (D0.fitted fates) * devO d1 pw2 (D1.fitted fates) * rdevO e0 q2 (D0.fitted fates) * rdevO e1 q2 (D1.fitted fates) * blk t (.cells (twoC pw d0 d1 q e0 e1) 34 (0, 0)) * powO pw p * rpowO q p) := hs2.perm
  exact hs3.left.left
end
end Go.Proofs.Ytnkjkkbjplneeaa
