/-
  law08: both sides stand alike.
-/
import Derived.Test.YtnkjkkbjplneeaaLaw08F
import Derived.Test.YtnkjkkbjplneeaaSameLoose
namespace Go.Proofs.Ytnkjkkbjplneeaa
open Go.RowKit Go.SL
set_option maxRecDepth 100000
set_option linter.unusedSimpArgs false
set_option linter.unusedVariables false
theorem TwoS.at (F : HProp) (g : TwoG) (p : PowA) (D0 D1 : DevA) {k : Nat} (hk : k < 2) : ∃ (d e : Nat) (D : DevA) (R : HProp) (c : Array Value), (D = D0 ∨ D = D1) ∧ c.size = 6 ∧ c[1 + k]? = some (ptr d) ∧ c[4 + k]? = some (ptr e) ∧
    F * sideD g p D0 D1 * sideR g p D0 D1 * twoB g = F * R * blk g.t (.cells c 34 (0, 0)) * devO d g.pw D * rdevO e g.q D := by
  unfold sideD sideR twoB
  rcases (by omega : k = 0 ∨ k = 1) with rfl | rfl
  · exact ⟨g.d0, g.e0, D0, powO g.pw p * rpowO g.q p * devO g.d1 g.pw D1 * rdevO g.e1 g.q D1, _, .inl rfl, rfl, rfl, rfl, by ac_rfl⟩
  · exact ⟨g.d1, g.e1, D1, powO g.pw p * rpowO g.q p * devO g.d0 g.pw D0 * rdevO g.e0 g.q D0, _, .inr rfl, rfl, rfl, rfl, by ac_rfl⟩
theorem rdevO.row {W0 w : World} {F : HProp} {e q : Nat} {D : DevA} (h : S W0 w (F * rdevO e q D)) : ∃ sb, w.cell? ⟨e, 1, none⟩ = some (.slice (some ⟨sb, 0, none⟩) D.secs.length D.secs.length) ∧ ∀ (i : Nat) (s : Sec), D.secs[i]? = some s → w.cell? ⟨sb, i * 3 + 2, none⟩ = some (.bool s.rotten) := by
  obtain ⟨g, hl, ho, h⟩ := rdevO.open h
  obtain ⟨c0, c1, c2, c3, fr⟩ := rdevG.cells h
  refine ⟨g.sb, c1, fun i s hi => ?_⟩
  obtain ⟨lv, hlv, d0, d1, d2, fr2⟩ := rdevG.at h hl hi
  exact d2
section
variable (W0 w : World) (F : HProp) (g : TwoG) (p : PowA) (D0 D1 : DevA)
set_option maxHeartbeats 4000000 in
theorem Law08Same (h0 : D0.secs.length ≤ 12) (h1 : D1.secs.length ≤ 12) (hs : S W0 w (F * sideD g p D0 D1 * sideR g p D0 D1 * twoB g)) :
    Calls Try.prog 23 #[.pointer (some ⟨g.t, 0, none⟩)] w fun e' w' => e' = .returned (.bool true) ∧ S W0 w' (F * sideD g p D0 D1 * sideR g p D0 D1 * twoB g) := by
  have hq : S W0 w (F * devO g.d0 g.pw D0 * devO g.d1 g.pw D1 * rdevO g.e0 g.q D0 * rdevO g.e1 g.q D1 * rpowO g.q p * twoB g * powO g.pw p) := by
    unfold sideD sideR at hs
    exact hs.perm
  have z0 : ∀ i v, (#[ptr g.pw, ptr g.d0, ptr g.d1, ptr g.q, ptr g.e0, ptr g.e1] : Array Value)[i]? = some v → w.cell? ⟨g.t, i, none⟩ = some v := fun i v h => by
    have h2 := hq.p1
    unfold twoB at h2
    rw [cell_at h2.heap]; exact h
  have u0 := z0 0 _ rfl
  have u3 := z0 3 _ rfl
  unfold ptr at u0 u3
  obtain ⟨left, hl, hq2⟩ := rpowO.open hq.p2
  have r0 : w.cell? ⟨g.q, 0, none⟩ = some (.bool p.off) := cell_at hq2.heap
  have r3 : w.cell? ⟨g.q, 3, none⟩ = some (.int .i64 p.done) := cell_at hq2.heap
  have hdown := fun n => PowDown W0 (w.drewN n) _ g.pw p (drewN_S n hq)
  have hdone := fun n => PowDone W0 (w.drewN n) _ g.pw p (drewN_S n hq)
  generalize p.off = off at r0 hdown
  generalize p.done = done at r3 hdone
  have HH := Lib.hid (⟨hdown, hdone⟩ : _ ∧ _)
  clear hq2 hl hq z0 hdown hdone
  go_enter Try.func23, Try.ntmps23
  go_wp2
  cases off
  all_goals
    go_quiet ((first | (go_at_call 10; exact Calls.quiet_of_same (HH.out.1 _)) | (go_at_call 13; exact Calls.quiet_of_same (HH.out.2 _))))
    have hs1 := drewN_S nq hs
    clear hs HH r0 r3 u0 u3
    generalize w.drewN nq = w1 at hs1 ⊢
    go_wp2
    go_loopw [3] (fun vk wr => ∃ k : Nat, vk = .int .i64 k ∧ k ≤ 2 ∧ S W0 wr (F * sideD g p D0 D1 * sideR g p D0 D1 * twoB g)) (fun vk _ => 2 - (intOf vk).toNat)
    case atStart => exact ⟨0, rfl, by omega, hs1⟩
    case round =>
      clear hs1
      obtain ⟨k, rfl, hk, hs1⟩ := hrel
      by_cases hlt : k < 2
      · obtain ⟨d, e, D, R, c, hDD, hcs, hcd, hce, hE⟩ := TwoS.at F g p D0 D1 hlt
        have hs2 := S.to hs1 hE
        have hD12 : D.secs.length ≤ 12 := by rcases hDD with rfl | rfl <;> assumption
        have hL12 : D.looseL.length ≤ 12 := by have := D.looseL_le; omega
        have hback := fun (w : World) (h : S W0 w (F * R * blk g.t (.cells c 34 (0, 0)) * devO d g.pw D * rdevO e g.q D)) => S.to h hE.symm
        have HBK := Lib.hid hback
        have HL := Lib.hid (⟨hD12, hL12⟩ : _ ∧ _)
        have z1 : wr.cell? ⟨g.t, 1 + k, none⟩ = some (.pointer (some ⟨d, 0, none⟩)) := by rw [cell_at hs2.p2.heap]; exact hcd
        have z2 : wr.cell? ⟨g.t, 4 + k, none⟩ = some (.pointer (some ⟨e, 0, none⟩)) := by rw [cell_at hs2.p2.heap]; exact hce
        have k0 : (0 : Int) ≤ k := by omega
        have k1 : (k : Int) < 2 := by omega
        clear hDD hcs hcd hce hE hs1 hD12 hL12 hback
        go_wp2
        go_quiet (fail)
        have hs3 := drewN_S nq hs2
        clear hs2 z1 z2
        generalize wr.drewN nq = w2 at hs3 ⊢
        go_wp2
        obtain ⟨sb, c1, _⟩ := rdevO.row hs3
        have hsize := DevSize W0 w2.drew _ d g.pw D hs3.drew.p1
        have hD12 := HL.out.1
        refine wp_region_S [(8, fun w => w.cell? ⟨e, 1, none⟩ = some (.slice (some ⟨sb, 0, none⟩) D.secs.length D.secs.length))] rfl ?_ ?_
        · intro q hq
          simp only [List.mem_cons, List.not_mem_nil, or_false] at hq
          subst hq
          exact c1
        refine WS.takeP (i := 0) (v := ?_) rfl (by kernel_rfl) (by kernel_rfl) (by kernel_rfl) rfl (fun _ _ _ h => h) (by rfl) (fun w1 => ?_) ?_
        rotate_left 1
        · go_simp; try with_reducible rfl
        try simp only [Act.put, List.setIfInBounds_toArray, List.set_cons_zero, List.set_cons_succ]
        refine WS.takeP (i := 2) (v := ?_) rfl (by kernel_rfl) (by kernel_rfl) (by kernel_rfl) rfl (fun _ _ _ h => h) (by rfl) (fun w1 => ?_) ?_
        rotate_left 1
        · go_simp; try with_reducible rfl
        try simp only [Act.put, List.setIfInBounds_toArray, List.set_cons_zero, List.set_cons_succ]
        refine WS.takeP (i := 3) (v := ?_) rfl (by kernel_rfl) (by kernel_rfl) (by kernel_rfl) rfl (fun _ _ _ h => h) (by rfl) (fun w1 => ?_) ?_
        rotate_left 1
        · go_simp; try with_reducible rfl
        try simp only [Act.put, List.setIfInBounds_toArray, List.set_cons_zero, List.set_cons_succ]
        refine WS.takeP (i := 4) (v := ?_) rfl (by kernel_rfl) (by kernel_rfl) (by kernel_rfl) rfl (fun _ _ _ h => h) (by rfl) (fun w1 => ?_) ?_
        rotate_left 1
        · go_simp; try with_reducible rfl
        try simp only [Act.put, List.setIfInBounds_toArray, List.set_cons_zero, List.set_cons_succ]
        refine WS.takeR (i := 5) (v := ?_) (8) _ (by first | exact .head _ | exact .tail _ (.head _) | exact .tail _ (.tail _ (.head _))) rfl (by kernel_rfl) (by kernel_rfl) (by kernel_rfl) rfl (by kernel_rfl) rfl (fun _ _ _ h => h) (by rfl) (fun w1 hR => ?_) ?_
        rotate_left 1
        · (skip); go_simp; try with_reducible rfl
        try simp only [Act.put, List.setIfInBounds_toArray, List.set_cons_zero, List.set_cons_succ]
        refine WS.takeP (i := 6) (v := ?_) rfl (by kernel_rfl) (by kernel_rfl) (by kernel_rfl) rfl (fun _ _ _ h => h) (by rfl) (fun w1 => ?_) ?_
        rotate_left 1
        · go_simp; try with_reducible rfl
        try simp only [Act.put, List.setIfInBounds_toArray, List.set_cons_zero, List.set_cons_succ]
        refine WS.one (i := 1) rfl (by kernel_rfl) (by rfl) (fun K hK => ?_)
        go_simp
        refine hsize.mono ?_
        rintro e' w3 ⟨rfl, rfl⟩
        refine hK _ _ (fun q hq _ => ?_) ?_
        · simp only [List.mem_cons, List.not_mem_nil, or_false] at hq
          subst hq
          exact c1
        refine WS.takeP (i := 7) (v := ?_) rfl (by kernel_rfl) (by kernel_rfl) (by kernel_rfl) rfl (fun _ _ _ h => h) (by rfl) (fun w1 => ?_) ?_
        rotate_left 1
        · go_simp; try with_reducible rfl
        try simp only [Act.put, List.setIfInBounds_toArray, List.set_cons_zero, List.set_cons_succ]
        refine WS.one (i := 8) rfl (by kernel_rfl) (by rfl) (fun K hK => ?_)
        go_simp
        refine hK _ _ (fun q hq hq2 => ?_) ?_
        · simp only [List.mem_cons, List.not_mem_nil, or_false] at hq
          subst hq
          revert hq2; simp
        refine WS.takeP (i := 9) (v := ?_) rfl (by kernel_rfl) (by kernel_rfl) (by kernel_rfl) rfl (fun _ _ _ h => h) (by rfl) (fun w1 => ?_) ?_
        rotate_left 1
        · go_simp; try with_reducible rfl
        try simp only [Act.put, List.setIfInBounds_toArray, List.set_cons_zero, List.set_cons_succ]
        refine WS.takeP (i := 11) (v := ?_) rfl (by kernel_rfl) (by kernel_rfl) (by kernel_rfl) rfl (fun _ _ _ h => h) (by rfl) (fun w1 => ?_) ?_
        rotate_left 1
        · go_simp; try with_reducible rfl
        try simp only [Act.put, List.setIfInBounds_toArray, List.set_cons_zero, List.set_cons_succ]
        have hlo := DevLoose W0 _ _ d g.pw D HL.out.2 (by omega) hs3.drew.p1
        refine WS.one (i := 10) rfl (by kernel_rfl) (by rfl) (fun K hK => ?_)
        go_simp
        refine hlo.mono ?_
        rintro e' w3 ⟨v1, rfl, hs4⟩
        refine hK _ _ (fun q hq hq2 => ?_) ?_
        · simp only [List.mem_cons, List.not_mem_nil, or_false] at hq
          subst hq
          revert hq2; simp
        have hrl := RefLoose W0 _ _ e g.q D hs4.p2
        refine WS.one (i := 12) rfl (by kernel_rfl) (by rfl) (fun K hK => ?_)
        go_simp
        refine hrl.mono ?_
        rintro e' w4 ⟨v2, rfl, hs5⟩
        refine hK _ _ (fun q hq hq2 => ?_) ?_
        · simp only [List.mem_cons, List.not_mem_nil, or_false] at hq
          subst hq
          revert hq2; simp
        have hsl := SameLoose w4 v1 v2 D.looseL D.looseL (S.reads hs5.p2) (S.reads hs5)
        rw [decide_eq_true (rfl : D.looseL = D.looseL)] at hsl
        refine WS.one (i := 13) rfl (by kernel_rfl) (by rfl) (fun K hK => ?_)
        go_simp
        refine hsl.mono ?_
        rintro e' w5 ⟨rfl, nq2, rfl⟩
        refine hK _ _ (fun q hq hq2 => ?_) ?_
        · simp only [List.mem_cons, List.not_mem_nil, or_false] at hq
          subst hq
          revert hq2; simp
        refine WS.takeP (i := 14) (v := ?_) rfl (by kernel_rfl) (by kernel_rfl) (by kernel_rfl) rfl (fun _ _ _ h => h) (by rfl) (fun w1 => ?_) ?_
        rotate_left 1
        · go_simp; try with_reducible rfl
        try simp only [Act.put, List.setIfInBounds_toArray, List.set_cons_zero, List.set_cons_succ]
        refine WS.takeP (i := 15) (v := ?_) rfl (by kernel_rfl) (by kernel_rfl) (by kernel_rfl) rfl (fun _ _ _ h => h) (by rfl) (fun w1 => ?_) ?_
        rotate_left 1
        · go_simp; try with_reducible rfl
        try simp only [Act.put, List.setIfInBounds_toArray, List.set_cons_zero, List.set_cons_succ]
        refine WS.done (by kernel_rfl) ?_
        have hs6 : S W0 (w4.drewN nq2) (F * R * blk g.t (.cells c 34 (0, 0)) * devO d g.pw D * rdevO e g.q D) := (S.perm (drewN_S nq2 hs5.left.p1.left) : _)
        clear hs3 hs4 hs5 hsl hrl hlo hsize c1
        generalize w4.drewN nq2 = w6 at hs6 ⊢
        go_wp2
        obtain ⟨wo, hwo⟩ : ∃ wo : World, wo = w6 := ⟨_, rfl⟩
        go_loopw [6] (fun vi wr => ∃ i : Nat, vi = .int .i64 i ∧ i ≤ D.secs.length ∧ S W0 wr (F * R * blk g.t (.cells c 34 (0, 0)) * devO d g.pw D * rdevO e g.q D)) (fun vi _ => D.secs.length - (intOf vi).toNat)
        case atStart => exact ⟨0, rfl, by omega, hs6⟩
        case round =>
          clear hs6 hwo
          obtain ⟨i, rfl, hi, hs6⟩ := hrel
          obtain ⟨sb, c1, hrow⟩ := rdevO.row hs6
          have i0 : (0 : Int) ≤ i := by omega
          by_cases hlt2 : i < D.secs.length
          · have i1 : (i : Int) < D.secs.length := by omega
            obtain ⟨s, hsi⟩ : ∃ s, D.secs[i]? = some s := ⟨D.secs[i], by simp [hlt2]⟩
            have hpk := DevPeek W0 _ _ d g.pw D (i : Int) hs6.p1
            have hhas : D.has (i : Int) = true := by simp [DevA.has, hlt2]
            have hst : D.peekB (i : Int) = s.stands := by simp [DevA.peekB, hhas, DevA.standsAt, hsi]
            have hrat : D.rottenAt (i : Int) = s.rotten := by simp [DevA.rottenAt, hsi]
            rw [hhas, hst] at hpk
            clear hhas hst hrow
            go_wp2_with fail
            refine hpk.mono ?_
            rintro e' w7 ⟨v, rfl, hs7⟩
            clear hpk c1
            obtain ⟨sb, c1, hrow⟩ := rdevO.row hs7.p2
            have d2 := hrow i s hsi
            have hcv := fun n => run_str_S (P := Try.prog) (w := w7.drewN n) Try.underlying44 Try.underlying5 Try.underlying9 (S.reads (drewN_S n hs7))
            have hstd := fun n => RefStands W0 (w7.drewN n) _ e g.q D i s hsi (drewN_S n hs7.p2)
            have hrot := fun n => DevRotten W0 (w7.drewN n) _ d g.pw D (i : Int) (drewN_S n hs7.p1)
            rw [hrat] at hrot
            obtain ⟨zz, hzz⟩ : ∃ zz, strV s.stands = .string zz := ⟨_, rfl⟩
            rw [hzz] at hcv hstd
            have HHH := Lib.hid (⟨hstd, hrot⟩ : _ ∧ _)
            have hs8 : S W0 w7 (F * R * blk g.t (.cells c 34 (0, 0)) * devO d g.pw D * rdevO e g.q D) := S.perm hs7.left
            clear hstd hrot hrow hrat hs7 hs6 hzz hsi
            generalize s.rotten = rt at *
            go_wp2
            cases rt
            all_goals
              go_quiet ((first | (go_at_call 49; exact Calls.quiet_of_same (HHH.out.1 _)) | (go_at_call 29; exact Calls.quiet_of_same (HHH.out.2 _))))
              have hs9 := drewN_S nq hs8
              clear hs8 HHH hcv d2 c1
              generalize w7.drewN nq = w8 at hs9 ⊢
              go_wp2
              go_roundw
              case rel => exact ⟨i + 1, by go_num, by omega, hs9⟩
              case measure => simp [intOf]; omega
          · have : i = D.secs.length := by omega
            clear hrow
            subst this
            go_wp2
            go_roundw
            case rel => exact ⟨k + 1, by go_num, by omega, HBK.out _ hs6⟩
            case measure => simp [intOf]; omega
      · have hk2 : k = 2 := by omega
        subst hk2
        go_wp2
        go_ret
        exact ⟨rfl, hs1⟩
end
end Go.Proofs.Ytnkjkkbjplneeaa
