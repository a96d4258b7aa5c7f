/-
  law08: a crash of both.
-/
import Derived.Test.YtnkjkkbjplneeaaLaw08B
namespace Go.Proofs.Ytnkjkkbjplneeaa
open Go.RowKit Go.SL
set_option maxRecDepth 100000
set_option linter.unusedSimpArgs false
set_option linter.unusedVariables false
section
variable (W0 w : World) (F : HProp) (g : TwoG) (p : PowA) (D0 D1 : DevA) (fates : List Int)
set_option maxHeartbeats 4000000 in
theorem Law08Crash (fv : Value) (h12 : D0.looseL.length ≤ 12 ∧ D1.looseL.length ≤ 12) (hsm : D0.Small 1000000 ∧ D1.Small 1000000) (hfk : ∀ k ∈ fates, ActA.in64 k) (hr : ∀ w, S W0 w F → ReadsW w 1 fv fates.length (i64s fates))
    (hs : S W0 w (F * sideD g p D0 D1 * sideR g p D0 D1 * twoB g)) :
    Calls Try.prog 43 #[.pointer (some ⟨g.t, 0, none⟩), fv] w fun e' w' => e' = .returned (.bool true) ∧ ∃ g' : TwoG, g'.t = g.t ∧
      S W0 w' (F * sideD g' .new (D0.fitted fates) (D1.fitted fates) * sideR g' .new (D0.fitted fates) (D1.fitted fates) * twoB g') := by
  have hpn := PowNew W0 w _ hs
  have HR := Lib.hid (⟨hr, hfk⟩ : _ ∧ _)
  have HD := Lib.hid (⟨h12, hsm⟩ : _ ∧ _)
  clear hr hfk h12 hsm
  go_enter Try.func43, Try.ntmps43
  go_wp2_with fail
  refine hpn.mono ?_
  rintro e' w1 ⟨pw2, rfl, hs1⟩
  have hs2 := hs1.alloc (.cells #[.bool false, .bool false, .int .i64 0, .int .i64 0] 81)
  have hs3 := rpowO.shut (p := .new) (left := 0) hs2 (by decide)
  have hst : CrSt W0 F g.t g.pw g.q pw2 w1.heap.size p D0 D1 fates 0 (w1.alloc (.cells #[.bool false, .bool false, .int .i64 0, .int .i64 0] 81)) := by
    refine ⟨g.d0, g.d1, g.e0, g.e1, ?_⟩
    show S W0 _ (F * powO g.pw p * rpowO g.q p * powO pw2 .new * rpowO w1.heap.size .new * blk g.t (.cells (twoC g.pw g.d0 g.d1 g.q g.e0 g.e1) 34 (0, 0)) * (devO g.d0 g.pw D0 * rdevO g.e0 g.q D0) * (devO g.d1 g.pw D1 * rdevO g.e1 g.q D1))
    unfold sideD sideR twoB at hs3
    have h : S W0 (w1.alloc (.cells #[.bool false, .bool false, .int .i64 0, .int .i64 0] 81)) (F * (powO g.pw p * devO g.d0 g.pw D0 * devO g.d1 g.pw D1) * (rpowO g.q p * rdevO g.e0 g.q D0 * rdevO g.e1 g.q D1) * blk g.t (.cells (twoC g.pw g.d0 g.d1 g.q g.e0 g.e1) 34 (0, 0)) * powO pw2 .new * rpowO w1.heap.size .new) := hs3
    exact h.perm
  clear hs hpn hs1 hs2 hs3
  go_wp2
  generalize w1.heap.size = q2 at hst ⊢
  generalize (w1.alloc (.cells #[.bool false, .bool false, .int .i64 0, .int .i64 0] 81)) = w2 at hst ⊢
  go_loopw [7] (fun vi wr => ∃ i : Nat, vi = .int .i64 i ∧ i ≤ 2 ∧ CrSt W0 F g.t g.pw g.q pw2 q2 p D0 D1 fates i wr) (fun vi _ => 2 - (intOf vi).toNat)
  case atStart => exact ⟨0, rfl, by omega, hst⟩
  case round =>
    clear hst
    obtain ⟨i, rfl, hi, hst⟩ := hrel
    by_cases hlt : i < 2
    · obtain ⟨d, e, D, R, c, hDD, hcs, hcd, hce, hs, back⟩ := CrSt.at _ _ _ _ _ _ _ _ _ _ _ hst hlt
      have hD12 : D.looseL.length ≤ 12 := by
        rcases hDD with rfl | rfl
        · exact HD.out.1.1
        · exact HD.out.1.2
      have hDs : D.Small 1000000 := by
        rcases hDD with rfl | rfl
        · exact HD.out.2.1
        · exact HD.out.2.2
      have HDD := Lib.hid (⟨hD12, hDs⟩ : _ ∧ _)
      have hblk : S W0 wr (F * R * powO pw2 .new * rpowO q2 .new * devO d g.pw D * rdevO e g.q D * blk g.t (.cells c 34 (0, 0))) := hs.perm
      have ce : wr.cell? ⟨g.t, 4 + i, none⟩ = some (.pointer (some ⟨e, 0, none⟩)) := by rw [cell_at hblk.heap]; exact hce
      have i0 : (0 : Int) ≤ i := by omega
      have i1 : (i : Int) < 2 := by omega
      have hloose := RefLoose W0 wr _ e g.q D hs
      clear hst hblk hDD hD12 hDs
      go_wp2_with fail
      refine hloose.mono ?_
      rintro e' w3 ⟨lv, rfl, hs1⟩
      clear hloose hs ce
      have hfit := RefFit W0 w3 _ lv fv D.looseL fates (by have := HDD.out.1; omega) (fun x hx => by
        obtain ⟨j, s, _, hj, _, rfl⟩ := DevA.mem_looseN.1 hx
        have := HDD.out.2 s (List.mem_of_getElem? hj)
        simp only
        omega) HR.out.2 (fun w h => h.reads) (fun w h => HR.out.1 w (S.left (S.left (S.left (S.left (S.left (S.left (S.left h)))))))) hs1
      go_wp2_with fail
      refine hfit.mono ?_
      rintro e' w4 ⟨fv2, rfl, hs2⟩
      clear hfit hs1
      have hcr0 := D.fit_ok fates
      generalize hft : fitL D.looseL fates = ft at *
      have hB : blk g.t (.cells c 34 (0, 0)) = blk g.t (.cells c 34 (0, 0)) := rfl
      have hs3 : S W0 w4 (F * R * rpowO q2 .new * rdevO e g.q D * vecB 3 1 fv2 ft.length (i64s ft) * blk g.t (.cells c 34 (0, 0)) * devO d g.pw D * powO pw2 .new) := by
        have h : S W0 w4 (F * R * rpowO q2 .new * rdevO e g.q D * vecB 3 1 fv2 ft.length (i64s ft) * blk g.t (.cells c 34 (0, 0)) * devO d g.pw D * powO pw2 .new * vecB 86 2 lv D.looseL.length (flatL D.looseL)) := hs2.perm
        exact h.left
      have cd : w4.cell? ⟨g.t, 1 + i, none⟩ = some (.pointer (some ⟨d, 0, none⟩)) := by rw [cell_at hs3.p2.heap]; exact hcd
      have hcr := DevCrash W0 w4 _ d g.pw pw2 D .new ft HDD.out.1 fv2 (fun w h => (S.reads (S.left h)).wide) hs3
      clear hs2 hB
      go_wp2_with fail
      refine hcr.mono ?_
      rintro e' w5 (⟨h, _⟩ | ⟨_, x, rfl, hs4⟩)
      · exact absurd hcr0 h
      clear hcr hs3 cd
      have hs5 : S W0 w5 (F * R * powO pw2 .new * rpowO q2 .new * devO x pw2 (D.crashD ft) * devO d g.pw D * blk g.t (.cells c 34 (0, 0)) * vecB 3 1 fv2 ft.length (i64s ft) * rdevO e g.q D) := hs4.perm
      have ce : w5.cell? ⟨g.t, 4 + i, none⟩ = some (.pointer (some ⟨e, 0, none⟩)) := by rw [cell_at hs5.p2.heap]; exact hce
      have hrc := RefCrash W0 w5 _ e g.q q2 D ft (by have := HDD.out.1; omega) fv2 (fun w h => (S.reads h).wide) hs5
      clear hs4
      go_wp2_with fail
      refine hrc.mono ?_
      rintro e' w6 (⟨h, _⟩ | ⟨_, y, rfl, hs6⟩)
      · exact absurd hcr0 h
      clear hrc hs5 ce
      have hs7 : S W0 w6 (F * R * powO pw2 .new * rpowO q2 .new * devO x pw2 (D.crashD ft) * rdevO y q2 (D.crashD ft) * blk g.t (.cells c 34 (0, 0))) := by
        have h : S W0 w6 (F * R * powO pw2 .new * rpowO q2 .new * devO x pw2 (D.crashD ft) * rdevO y q2 (D.crashD ft) * blk g.t (.cells c 34 (0, 0)) * vecB 3 1 fv2 ft.length (i64s ft) * devO d g.pw D * rdevO e g.q D) := hs6.perm
        exact h.left.left.left
      clear hs6
      have z1 : w6.cell? ⟨g.t, 1 + i, none⟩ = some (.pointer (some ⟨d, 0, none⟩)) := by rw [cell_at hs7.heap]; exact hcd
      have z2 : w6.cell? ⟨g.t, 4 + i, none⟩ = some (.pointer (some ⟨e, 0, none⟩)) := by rw [cell_at hs7.heap]; exact hce
      have f1 : w6.frozen? ⟨g.t, 1 + i, none⟩ = false := free_at hs7.heap
      have f2 : w6.frozen? ⟨g.t, 4 + i, none⟩ = false := free_at hs7.heap
      have hs8 := (hs7.set (i := 1 + i) (v := ptr x)).set (i := 4 + i) (v := ptr y)
      have hfin := back _ x y (by unfold DevA.fitted; rw [hft]; exact hs8.perm)
      unfold ptr at hfin
      clear hs7 hs8 back
      go_wp2
      go_roundw
      case rel => exact ⟨i + 1, by go_num, by omega, hfin⟩
      case measure => simp [intOf]; omega
    · have hi2 : i = 2 := by omega
      subst hi2
      obtain ⟨d0, d1, e0, e1, hs⟩ := CrSt.done _ _ _ _ _ _ _ _ _ _ _ hst
      have z1 : wr.cell? ⟨g.t, 0, none⟩ = some (.pointer (some ⟨g.pw, 0, none⟩)) := by rw [cell_at hs.heap]; rfl
      have z2 : wr.cell? ⟨g.t, 3, none⟩ = some (.pointer (some ⟨g.q, 0, none⟩)) := by rw [cell_at hs.heap]; rfl
      have f1 : wr.frozen? ⟨g.t, 0, none⟩ = false := free_at hs.heap
      have f2 : wr.frozen? ⟨g.t, 3, none⟩ = false := free_at hs.heap
      have hs2 := (hs.set (i := 0) (v := ptr pw2)).set (i := 3) (v := ptr q2)
      unfold ptr at hs2
      clear hs hst
      go_wp2
      go_ret
      refine ⟨rfl, ⟨g.t, pw2, d0, d1, q2, e0, e1⟩, rfl, ?_⟩
      unfold sideD sideR twoB
      exact S.to hs2 (by
        have e : ((twoC g.pw d0 d1 g.q e0 e1).setIfInBounds 0 (.pointer (some ⟨pw2, 0, none⟩))).setIfInBounds 3 (.pointer (some ⟨q2, 0, none⟩)) = twoC pw2 d0 d1 q2 e0 e1 := rfl
        rw [e]
        unfold twoC ptr
        dsimp only
        ac_rfl)
end
end Go.Proofs.Ytnkjkkbjplneeaa
