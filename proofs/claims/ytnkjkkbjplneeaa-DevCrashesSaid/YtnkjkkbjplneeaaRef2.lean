/-
  What the document's Read does.
-/
import Derived.Test.YtnkjkkbjplneeaaRef1
namespace Go.Proofs.Ytnkjkkbjplneeaa
open Go.RowKit Go.SL
set_option maxRecDepth 100000
set_option linter.unusedSimpArgs false
set_option linter.unusedVariables false
section
variable {W0 w : World} {F : HProp} {q e : Nat} {D : DevA}
theorem rdevO.setReads (h : S W0 w (F * rdevO e q D)) {n : Nat} (hn : n < 18446744073709551616) : S W0 (w.setCell ⟨e, 2, none⟩ (.int .u64 (n : Int))) (F * rdevO e q { D with reads := n }) := by
  obtain ⟨g, hl, ho, h⟩ := rdevO.open h
  exact rdevO.shut (g := g) (rdevG.of_top ((rdevG.top h).set (i := 2))) hl ⟨hn, ho.2.1, ho.2.2.1, ho.2.2.2⟩
theorem rdevO.setWrites (h : S W0 w (F * rdevO e q D)) {n : Nat} (hn : n < 18446744073709551616) : S W0 (w.setCell ⟨e, 3, none⟩ (.int .u64 (n : Int))) (F * rdevO e q { D with writes := n }) := by
  obtain ⟨g, hl, ho, h⟩ := rdevO.open h
  exact rdevO.shut (g := g) (rdevG.of_top ((rdevG.top h).set (i := 3))) hl ⟨ho.1, hn, ho.2.2.1, ho.2.2.2⟩
theorem rdevO.cells (h : S W0 w (F * rdevO e q D)) : w.cell? ⟨e, 0, none⟩ = some (.pointer (some ⟨q, 0, none⟩)) ∧ w.cell? ⟨e, 2, none⟩ = some (.int .u64 (D.reads : Int)) ∧ w.cell? ⟨e, 3, none⟩ = some (.int .u64 (D.writes : Int)) ∧ (∀ i, w.frozen? ⟨e, i, none⟩ = false) ∧ D.Ok := by
  obtain ⟨g, hl, ho, h⟩ := rdevO.open h
  obtain ⟨c0, c1, c2, c3, fr⟩ := rdevG.cells h
  exact ⟨c0, c2, c3, fr, ho⟩
end
section
variable (W0 w : World) (F : HProp) (e q : Nat) (D : DevA)
set_option maxHeartbeats 1000000 in
theorem RefRead (p : PowA) (at_ : Int) (hs : S W0 w (F * rpowO q p * rdevO e q D)) :
    Calls Try.prog 38 #[.pointer (some ⟨e, 0, none⟩), .int .i64 at_] w fun e' w' => e' = .returned (.tuple #[strV (D.readB p at_), .int .i64 (D.readE p at_)]) ∧ S W0 w' (F * rpowO q p * rdevO e q (D.readS p at_)) := by
  obtain ⟨c0, c2, c3, fr, ho⟩ := rdevO.cells hs
  obtain ⟨left, hl, h⟩ := rpowO.open hs.p1
  have d0 : w.cell? ⟨q, 0, none⟩ = some (.bool p.off) := cell_at h.heap
  have hhas := RefHas W0 w _ e q D at_ hs
  have hrd : D.reads < 18446744073709551616 := ho.1
  have hz : strV [] = .string ⟨#[]⟩ := rfl
  unfold DevA.readB DevA.readE DevA.readS
  clear h hl ho c3
  by_cases h1 : p.off = true
  · rw [h1] at d0
    rw [if_pos h1, if_pos h1, if_pos h1, hz]
    go_enter Try.func38, Try.ntmps38
    go_wp2
    go_ret2
    exact ⟨rfl, hs⟩
  rw [if_neg h1, if_neg h1, if_neg h1]
  have h1' : p.off = false := by simpa using h1
  rw [h1'] at d0
  clear h1'
  cases h2 : D.has at_ with
  | false =>
    rw [h2] at hhas
    simp only [if_true]
    rw [hz]
    go_enter Try.func38, Try.ntmps38
    go_wp2_with (first | (go_at_call 52; refine (hhas).mono ?_; rintro e w' ⟨rfl, rfl⟩))
    go_ret2
    exact ⟨rfl, hs⟩
  | true =>
    rw [h2] at hhas
    simp only [Bool.true_eq_false, if_false]
    have hs1 := rdevO.setReads hs (n := D.reads / 2) (by omega)
    have f2 := fr 2


    cases h5 : (D.reads % 2 == 1) with
    | true =>
      have h6 : (((D.reads : Int) % 2) == 1) = true := by simp at h5 ⊢; omega
      simp only [if_true]
      rw [hz]
      go_enter Try.func38, Try.ntmps38
      go_wp2_with (first | (go_at_call 52; refine (hhas).mono ?_; rintro e w' ⟨rfl, rfl⟩))
      go_ret2
      exact ⟨rfl, hs1⟩
    | false =>
      have h6 : (((D.reads : Int) % 2) == 1) = false := by simp at h5 ⊢; omega
      simp only [Bool.false_eq_true, if_false]
      obtain ⟨i, s, rfl, hi, hst⟩ := has_get h2
      have hstands := RefStands W0 _ _ e q { D with reads := D.reads / 2 } i s hi hs1
      rw [hst]
      clear hst hi h2 h5
      go_enter Try.func38, Try.ntmps38
      go_wp2_with (first | (go_at_call 52; refine (hhas).mono ?_; rintro e w' ⟨rfl, rfl⟩) | (go_at_call 49; refine (hstands).mono ?_; rintro e w' ⟨rfl, rfl⟩))
      go_ret2
      exact ⟨rfl, hs1⟩
end
end Go.Proofs.Ytnkjkkbjplneeaa
