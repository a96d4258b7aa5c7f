/-
  law08: some kinds of acts, done with both.
-/
import Derived.Test.YtnkjkkbjplneeaaLaw08D
namespace Go.Proofs.Ytnkjkkbjplneeaa
open Go.RowKit Go.SL
set_option maxRecDepth 100000
set_option linter.unusedSimpArgs false
set_option linter.unusedVariables false
section
variable (W0 w : World) (F : HProp) (t m0 m1 n : Nat)
set_option maxHeartbeats 4000000 in
theorem DoRead (x : ActA) (hkind : x.kind = 0) (hx : x.Ok) (hfates : ∀ w, S W0 w F → ReadsW w 1 x.fv x.fates.length (i64s x.fates)) (hm0 : m0 ≤ 12) (hm1 : m1 ≤ 12) (hn : n ≤ 900000) (hst : TwoSt W0 F t m0 m1 n w) :
    Calls Try.prog 15 #[.pointer (some ⟨t, 0, none⟩), .agg x.row.toArray] w fun e' w' => e' = .returned (.bool true) ∧ TwoSt W0 F t m0 m1 (n + 1) w' := by
  obtain ⟨kind, of_, at_, num, bit, turn, a, b, fill, size, fates, fv⟩ := x
  obtain ⟨_, ⟨o1, o2⟩, ⟨at1, at2⟩, ⟨n1, n2⟩, ⟨b1, b2⟩, ⟨t1, t2⟩, ⟨a1, a2⟩, ⟨bb1, bb2⟩, ⟨fi1, fi2⟩, ⟨s1, s2⟩, hfk⟩ := hx
  simp only at hkind o1 o2 at1 at2 n1 n2 b1 b2 t1 t2 a1 a2 bb1 bb2 fi1 fi2 s1 s2 hfk hfates
  first | subst hkind | skip
  obtain ⟨pw, q, d, e, p, D, R, c, hp, hsm, hl12, hcs, hc0, hc3, hcd, hce, hs, back⟩ := hst.pick (ofK_lt of_) hm0 hm1
  have hck := ofK_cases of_
  have hk2 := ofK_lt of_
  generalize ofK of_ = k at *
  have k0 : (0 : Int) ≤ k := by omega
  have k1 : (k : Int) < 2 := by omega
  have HB := Lib.hid back
  have HC := Lib.hid (⟨hcs, hc0, hc3, hcd, hce⟩ : _ ∧ _ ∧ _ ∧ _ ∧ _)
  clear back hst hcs hc0 hc3 hcd hce
  have hs0 := hs.alloc (.cells #[.int .i64 0, .int .i64 of_, .int .i64 at_, .int .i64 num, .int .i64 bit, .int .u32 turn, .int .u64 a, .int .u64 b, .int .u8 fill, .int .i64 size, fv] 40)
  have z1 : (w.alloc (.cells #[.int .i64 0, .int .i64 of_, .int .i64 at_, .int .i64 num, .int .i64 bit, .int .u32 turn, .int .u64 a, .int .u64 b, .int .u8 fill, .int .i64 size, fv] 40)).cell? ⟨t, 1 + k, none⟩ = some (.pointer (some ⟨d, 0, none⟩)) := by rw [cell_at hs0.p5.heap]; exact HC.out.2.2.2.1
  have z2 : (w.alloc (.cells #[.int .i64 0, .int .i64 of_, .int .i64 at_, .int .i64 num, .int .i64 bit, .int .u32 turn, .int .u64 a, .int .u64 b, .int .u8 fill, .int .i64 size, fv] 40)).cell? ⟨t, 4 + k, none⟩ = some (.pointer (some ⟨e, 0, none⟩)) := by rw [cell_at hs0.p5.heap]; exact HC.out.2.2.2.2
  simp only [ActA.row]
  clear hs
  rcases hck with ⟨hk, rfl⟩ | ⟨hk, rfl⟩ | ⟨hk, rfl⟩
  all_goals
    go_enter Try.func15, Try.ntmps15
    go_wp2
    go_quiet (fail)
    have hs1 := drewN_S nq hs0
    clear hs0 z1 z2 hk
    generalize (w.alloc (.cells #[.int .i64 0, .int .i64 of_, .int .i64 at_, .int .i64 num, .int .i64 bit, .int .u32 turn, .int .u64 a, .int .u64 b, .int .u8 fill, .int .i64 size, fv] 40)).drewN nq = w1 at hs1 ⊢
    generalize w.heap.size = ab at hs1 ⊢
    have y2 : w1.cell? ⟨ab, 0, none⟩ = some (.int .i64 0) := cell_at hs1.heap
    have y3 : w1.cell? ⟨ab, 2, none⟩ = some (.int .i64 at_) := cell_at hs1.heap
    have hrd := DevRead W0 w1 _ d pw D p at_ hs1.p4.p3
    have hb1 : (D.readS p at_).Small (n + 1) := fun s hs => by rw [DevA.readS_secs] at hs; exact hsm.le (by omega) s hs
    have hb2 : (D.readS p at_).secs.length = D.secs.length := by rw [DevA.readS_secs]
    have HBB := Lib.hid (⟨hb1, hb2⟩ : _ ∧ _)
    clear hb1 hb2
    go_wp2_with fail
    refine hrd.mono ?_
    rintro e' w2 ⟨v, rfl, hs2⟩
    clear hrd hs1 y2 y3
    have y3 : w2.cell? ⟨ab, 2, none⟩ = some (.int .i64 at_) := cell_at hs2.p3.heap
    have hrr := RefRead W0 w2 _ e q D p at_ hs2.p5.p5
    obtain ⟨zz, hzz⟩ : ∃ zz, strV (D.readB p at_) = .string zz := ⟨_, rfl⟩
    rw [hzz] at hrr
    have HZ := Lib.hid hzz
    clear hzz
    go_wp2_with fail
    refine hrr.mono ?_
    rintro e' w3 ⟨rfl, hs3⟩
    have hcv := run_str_S (P := Try.prog) Try.underlying44 Try.underlying5 Try.underlying9 (S.reads hs3.p2)
    rw [HZ.out] at hcv
    clear hrr hs2 y3
    go_wp2
    go_ret
    exact ⟨rfl, HB.out _ _ _ hp HBB.out.1 HBB.out.2 (S.perm hs3.p5.left.p2.left)⟩
set_option maxHeartbeats 4000000 in
theorem DoWrite (x : ActA) (hkind : x.kind = 1) (hx : x.Ok) (hfates : ∀ w, S W0 w F → ReadsW w 1 x.fv x.fates.length (i64s x.fates)) (hm0 : m0 ≤ 12) (hm1 : m1 ≤ 12) (hn : n ≤ 900000) (hst : TwoSt W0 F t m0 m1 n w) :
    Calls Try.prog 15 #[.pointer (some ⟨t, 0, none⟩), .agg x.row.toArray] w fun e' w' => e' = .returned (.bool true) ∧ TwoSt W0 F t m0 m1 (n + 1) w' := by
  obtain ⟨kind, of_, at_, num, bit, turn, a, b, fill, size, fates, fv⟩ := x
  obtain ⟨_, ⟨o1, o2⟩, ⟨at1, at2⟩, ⟨n1, n2⟩, ⟨b1, b2⟩, ⟨t1, t2⟩, ⟨a1, a2⟩, ⟨bb1, bb2⟩, ⟨fi1, fi2⟩, ⟨s1, s2⟩, hfk⟩ := hx
  simp only at hkind o1 o2 at1 at2 n1 n2 b1 b2 t1 t2 a1 a2 bb1 bb2 fi1 fi2 s1 s2 hfk hfates
  first | subst hkind | skip
  obtain ⟨pw, q, d, e, p, D, R, c, hp, hsm, hl12, hcs, hc0, hc3, hcd, hce, hs, back⟩ := hst.pick (ofK_lt of_) hm0 hm1
  have hck := ofK_cases of_
  have hk2 := ofK_lt of_
  generalize ofK of_ = k at *
  have k0 : (0 : Int) ≤ k := by omega
  have k1 : (k : Int) < 2 := by omega
  have HB := Lib.hid back
  have HC := Lib.hid (⟨hcs, hc0, hc3, hcd, hce⟩ : _ ∧ _ ∧ _ ∧ _ ∧ _)
  clear back hst hcs hc0 hc3 hcd hce
  have hs0 := hs.alloc (.cells #[.int .i64 1, .int .i64 of_, .int .i64 at_, .int .i64 num, .int .i64 bit, .int .u32 turn, .int .u64 a, .int .u64 b, .int .u8 fill, .int .i64 size, fv] 40)
  have z1 : (w.alloc (.cells #[.int .i64 1, .int .i64 of_, .int .i64 at_, .int .i64 num, .int .i64 bit, .int .u32 turn, .int .u64 a, .int .u64 b, .int .u8 fill, .int .i64 size, fv] 40)).cell? ⟨t, 1 + k, none⟩ = some (.pointer (some ⟨d, 0, none⟩)) := by rw [cell_at hs0.p5.heap]; exact HC.out.2.2.2.1
  have z2 : (w.alloc (.cells #[.int .i64 1, .int .i64 of_, .int .i64 at_, .int .i64 num, .int .i64 bit, .int .u32 turn, .int .u64 a, .int .u64 b, .int .u8 fill, .int .i64 size, fv] 40)).cell? ⟨t, 4 + k, none⟩ = some (.pointer (some ⟨e, 0, none⟩)) := by rw [cell_at hs0.p5.heap]; exact HC.out.2.2.2.2
  simp only [ActA.row]
  clear hs
  rcases hck with ⟨hk, rfl⟩ | ⟨hk, rfl⟩ | ⟨hk, rfl⟩
  all_goals
    go_enter Try.func15, Try.ntmps15
    go_wp2
    go_quiet (fail)
    have hs1 := drewN_S nq hs0
    clear hs0 z1 z2 hk
    generalize (w.alloc (.cells #[.int .i64 1, .int .i64 of_, .int .i64 at_, .int .i64 num, .int .i64 bit, .int .u32 turn, .int .u64 a, .int .u64 b, .int .u8 fill, .int .i64 size, fv] 40)).drewN nq = w1 at hs1 ⊢
    generalize w.heap.size = ab at hs1 ⊢
    have y2 : w1.cell? ⟨ab, 0, none⟩ = some (.int .i64 1) := cell_at hs1.heap
    obtain ⟨c8, rfl⟩ : ∃ c8 : UInt8, fill = c8.toNat := ⟨UInt8.ofNat fill.toNat, by simp; omega⟩
    have y3 : w1.cell? ⟨ab, 8, none⟩ = some (.int .u8 (c8.toNat : Int)) := cell_at hs1.heap
    have y4 : w1.cell? ⟨ab, 9, none⟩ = some (.int .i64 size) := cell_at hs1.heap
    have hfl := FillV W0 w1 _ c8 size hs1
    have hll := fillN_le size
    have hle : (fillB c8 size).length ≤ 100 := by unfold fillB; simpa using hll
    generalize fillB c8 size = l at *
    have HL := Lib.hid hle
    clear hle hll
    go_wp2_with fail
    refine hfl.mono ?_
    rintro e' w2 ⟨v, rfl, hs2⟩
    clear hfl hs1 y2 y3 y4
    go_wp2
    obtain ⟨av, mv, rfl⟩ : ∃ av mv, v = .slice av l.length mv := by
      rcases S.vec hs2 with ⟨rfl, h0, _⟩ | ⟨_, m, _, rfl, _⟩
      · rw [h0]; exact ⟨_, _, rfl⟩
      · exact ⟨_, _, rfl⟩
    have y3 : w2.cell? ⟨ab, 2, none⟩ = some (.int .i64 at_) := cell_at hs2.p1.heap
    have hcv := fun (w : World) (G : HProp) (h : S W0 w (G * bytesV (.slice av l.length mv) 5 l)) => run_str_S (P := Try.prog) Try.underlying44 Try.underlying5 Try.underlying9 (S.reads h)
    obtain ⟨zz, hzz⟩ : ∃ zz, strV l = .string zz := ⟨_, rfl⟩
    rw [hzz] at hcv
    refine wp_region_S [(12, fun w => w.cell? ⟨ab, 2, none⟩ = some (.int .i64 at_)), (10, fun w => (convert 44 9 (.slice av l.length mv)).run Try.prog w = .ok (.string zz) w)] rfl ?_ ?_
    · intro q hq
      simp only [List.mem_cons, List.not_mem_nil, or_false] at hq
      rcases hq with rfl | rfl
      · exact y3
      · exact hcv _ _ hs2.drew
    refine WS.takeP (i := 0) (v := ?_) rfl (by kernel_rfl) (by kernel_rfl) (by kernel_rfl) rfl (fun _ _ _ h => h) (by rfl) (fun w1 => ?_) ?_
    rotate_left 1
    · go_simp; try with_reducible rfl
    try simp only [Act.put, List.setIfInBounds_toArray, List.set_cons_zero, List.set_cons_succ]
    refine WS.takeP (i := 1) (v := ?_) rfl (by kernel_rfl) (by kernel_rfl) (by kernel_rfl) rfl (fun _ _ _ h => h) (by rfl) (fun w1 => ?_) ?_
    rotate_left 1
    · go_simp; try with_reducible rfl
    try simp only [Act.put, List.setIfInBounds_toArray, List.set_cons_zero, List.set_cons_succ]
    refine WS.takeR (i := 2) (v := ?_) (12) _ (by first | exact .head _ | exact .tail _ (.head _) | exact .tail _ (.tail _ (.head _))) rfl (by kernel_rfl) (by kernel_rfl) (by kernel_rfl) rfl (by kernel_rfl) rfl (fun _ _ _ h => h) (by rfl) (fun w1 hR => ?_) ?_
    rotate_left 1
    · (skip); go_simp; try with_reducible rfl
    try simp only [Act.put, List.setIfInBounds_toArray, List.set_cons_zero, List.set_cons_succ]
    refine WS.takeP (i := 3) (v := ?_) rfl (by kernel_rfl) (by kernel_rfl) (by kernel_rfl) rfl (fun _ _ _ h => h) (by rfl) (fun w1 => ?_) ?_
    rotate_left 1
    · go_simp; try with_reducible rfl
    try simp only [Act.put, List.setIfInBounds_toArray, List.set_cons_zero, List.set_cons_succ]
    refine WS.takeP (i := 5) (v := ?_) rfl (by kernel_rfl) (by kernel_rfl) (by kernel_rfl) rfl (fun _ _ _ h => h) (by rfl) (fun w1 => ?_) ?_
    rotate_left 1
    · go_simp; try with_reducible rfl
    try simp only [Act.put, List.setIfInBounds_toArray, List.set_cons_zero, List.set_cons_succ]
    refine WS.takeP (i := 6) (v := ?_) rfl (by kernel_rfl) (by kernel_rfl) (by kernel_rfl) rfl (fun _ _ _ h => h) (by rfl) (fun w1 => ?_) ?_
    rotate_left 1
    · go_simp; try with_reducible rfl
    try simp only [Act.put, List.setIfInBounds_toArray, List.set_cons_zero, List.set_cons_succ]
    refine WS.takeR (i := 7) (v := ?_) (12) _ (by first | exact .head _ | exact .tail _ (.head _) | exact .tail _ (.tail _ (.head _))) rfl (by kernel_rfl) (by kernel_rfl) (by kernel_rfl) rfl (by kernel_rfl) rfl (fun _ _ _ h => h) (by rfl) (fun w1 hR => ?_) ?_
    rotate_left 1
    · (skip); go_simp; try with_reducible rfl
    try simp only [Act.put, List.setIfInBounds_toArray, List.set_cons_zero, List.set_cons_succ]
    refine WS.takeP (i := 8) (v := ?_) rfl (by kernel_rfl) (by kernel_rfl) (by kernel_rfl) rfl (fun _ _ _ h => h) (by rfl) (fun w1 => ?_) ?_
    rotate_left 1
    · go_simp; try with_reducible rfl
    try simp only [Act.put, List.setIfInBounds_toArray, List.set_cons_zero, List.set_cons_succ]
    refine WS.takeR (i := 9) (v := ?_) (10) _ (by first | exact .head _ | exact .tail _ (.head _) | exact .tail _ (.tail _ (.head _))) rfl (by kernel_rfl) (by kernel_rfl) (by kernel_rfl) rfl (by kernel_rfl) rfl (fun _ _ _ h => h) (by rfl) (fun w1 hR => ?_) ?_
    rotate_left 1
    · (have hconv := hR); go_simp; try with_reducible rfl
    try simp only [Act.put, List.setIfInBounds_toArray, List.set_cons_zero, List.set_cons_succ]
    have hwr := DevWrite W0 w2.drew _ d pw D p hp (hsm.le (by omega)) at_ _ l (fun w h => S.reads h) (by have := HL.out; omega) (S.perm (B := F * R * blk t (.cells c 34 (0, 0)) * rpowO q p * rdevO e q D * blk ab (.cells #[.int .i64 1, .int .i64 of_, .int .i64 at_, .int .i64 num, .int .i64 bit, .int .u32 turn, .int .u64 a, .int .u64 b, .int .u8 (c8.toNat : Int), .int .i64 size, fv] 40 (0, 0)) * bytesV (.slice av l.length mv) 5 l * powO pw p * devO d pw D) hs2.drew)
    refine WS.one (i := 4) rfl (by kernel_rfl) (by rfl) (fun K hK => ?_)
    go_simp
    refine hwr.mono ?_
    rintro e' w3 ⟨rfl, hs3⟩
    refine hK _ _ (fun q hq _ => ?_) ?_
    · simp only [List.mem_cons, List.not_mem_nil, or_false] at hq
      rcases hq with rfl | rfl
      · exact cell_at hs3.p3.heap
      · exact hcv _ _ hs3.p2
    have hrw := RefWrite W0 w3 _ e q D p hp (hsm.le (by omega)) at_ l (S.perm (B := F * R * blk t (.cells c 34 (0, 0)) * blk ab (.cells #[.int .i64 1, .int .i64 of_, .int .i64 at_, .int .i64 num, .int .i64 bit, .int .u32 turn, .int .u64 a, .int .u64 b, .int .u8 (c8.toNat : Int), .int .i64 size, fv] 40 (0, 0)) * bytesV (.slice av l.length mv) 5 l * powO pw (D.writeP p at_ l) * devO d pw (D.writeS p at_ l) * rpowO q p * rdevO e q D) hs3)
    rw [hzz] at hrw
    refine WS.one (i := 10) rfl (by kernel_rfl) (by rfl) (fun K hK => ?_)
    go_simp
    refine hrw.mono ?_
    rintro e' w4 ⟨rfl, hs4⟩
    refine hK _ _ (fun q hq hq2 => ?_) ?_
    · simp only [List.mem_cons, List.not_mem_nil, or_false] at hq
      rcases hq with rfl | rfl
      · exact cell_at hs4.p5.heap
      · revert hq2
        simp
    refine WS.takeP (i := 11) (v := ?_) rfl (by kernel_rfl) (by kernel_rfl) (by kernel_rfl) rfl (fun _ _ _ h => h) (by rfl) (fun w1 => ?_) ?_
    rotate_left 1
    · go_simp; try with_reducible rfl
    try simp only [Act.put, List.setIfInBounds_toArray, List.set_cons_zero, List.set_cons_succ]
    refine WS.one (i := 12) rfl (by kernel_rfl) (by rfl) (fun K hK => ?_)
    go_simp
    refine hK _ _ (fun q hq hq2 => ?_) ?_
    · simp only [List.mem_cons, List.not_mem_nil, or_false] at hq
      rcases hq with rfl | rfl <;> (revert hq2; simp)
    refine WS.done (by kernel_rfl) ?_
    have hfin := HB.out w4 _ _ (DevA.writeP_ok hp D at_ l) (DevA.writeS_small hsm p at_ l) (DevA.writeS_len D p at_ l) (S.perm hs4.p5.left.p4.left)
    clear hs4 hs3 hs2 hrw hwr hcv y3
    go_wp2
    go_ret
    exact ⟨rfl, hfin⟩
set_option maxHeartbeats 4000000 in
theorem DoFlush (x : ActA) (hkind : x.kind = 2) (hx : x.Ok) (hfates : ∀ w, S W0 w F → ReadsW w 1 x.fv x.fates.length (i64s x.fates)) (hm0 : m0 ≤ 12) (hm1 : m1 ≤ 12) (hn : n ≤ 900000) (hst : TwoSt W0 F t m0 m1 n w) :
    Calls Try.prog 15 #[.pointer (some ⟨t, 0, none⟩), .agg x.row.toArray] w fun e' w' => e' = .returned (.bool true) ∧ TwoSt W0 F t m0 m1 (n + 1) w' := by
  obtain ⟨kind, of_, at_, num, bit, turn, a, b, fill, size, fates, fv⟩ := x
  obtain ⟨_, ⟨o1, o2⟩, ⟨at1, at2⟩, ⟨n1, n2⟩, ⟨b1, b2⟩, ⟨t1, t2⟩, ⟨a1, a2⟩, ⟨bb1, bb2⟩, ⟨fi1, fi2⟩, ⟨s1, s2⟩, hfk⟩ := hx
  simp only at hkind o1 o2 at1 at2 n1 n2 b1 b2 t1 t2 a1 a2 bb1 bb2 fi1 fi2 s1 s2 hfk hfates
  first | subst hkind | skip
  obtain ⟨pw, q, d, e, p, D, R, c, hp, hsm, hl12, hcs, hc0, hc3, hcd, hce, hs, back⟩ := hst.pick (ofK_lt of_) hm0 hm1
  have hck := ofK_cases of_
  have hk2 := ofK_lt of_
  generalize ofK of_ = k at *
  have k0 : (0 : Int) ≤ k := by omega
  have k1 : (k : Int) < 2 := by omega
  have HB := Lib.hid back
  have HC := Lib.hid (⟨hcs, hc0, hc3, hcd, hce⟩ : _ ∧ _ ∧ _ ∧ _ ∧ _)
  clear back hst hcs hc0 hc3 hcd hce
  have hs0 := hs.alloc (.cells #[.int .i64 2, .int .i64 of_, .int .i64 at_, .int .i64 num, .int .i64 bit, .int .u32 turn, .int .u64 a, .int .u64 b, .int .u8 fill, .int .i64 size, fv] 40)
  have z1 : (w.alloc (.cells #[.int .i64 2, .int .i64 of_, .int .i64 at_, .int .i64 num, .int .i64 bit, .int .u32 turn, .int .u64 a, .int .u64 b, .int .u8 fill, .int .i64 size, fv] 40)).cell? ⟨t, 1 + k, none⟩ = some (.pointer (some ⟨d, 0, none⟩)) := by rw [cell_at hs0.p5.heap]; exact HC.out.2.2.2.1
  have z2 : (w.alloc (.cells #[.int .i64 2, .int .i64 of_, .int .i64 at_, .int .i64 num, .int .i64 bit, .int .u32 turn, .int .u64 a, .int .u64 b, .int .u8 fill, .int .i64 size, fv] 40)).cell? ⟨t, 4 + k, none⟩ = some (.pointer (some ⟨e, 0, none⟩)) := by rw [cell_at hs0.p5.heap]; exact HC.out.2.2.2.2
  simp only [ActA.row]
  clear hs
  rcases hck with ⟨hk, rfl⟩ | ⟨hk, rfl⟩ | ⟨hk, rfl⟩
  all_goals
    go_enter Try.func15, Try.ntmps15
    go_wp2
    go_quiet (fail)
    have hs1 := drewN_S nq hs0
    clear hs0 z1 z2 hk
    generalize (w.alloc (.cells #[.int .i64 2, .int .i64 of_, .int .i64 at_, .int .i64 num, .int .i64 bit, .int .u32 turn, .int .u64 a, .int .u64 b, .int .u8 fill, .int .i64 size, fv] 40)).drewN nq = w1 at hs1 ⊢
    generalize w.heap.size = ab at hs1 ⊢
    have y2 : w1.cell? ⟨ab, 0, none⟩ = some (.int .i64 2) := cell_at hs1.heap
    have hfl := DevFlush W0 w1 _ d pw D p hp hs1.p4.p3
    go_wp2_with fail
    refine hfl.mono ?_
    rintro e' w2 ⟨rfl, hs2⟩
    clear hfl hs1 y2
    have hrf := RefFlush W0 w2 _ e q D p hp hs2.p4.p4
    go_wp2_with fail
    refine hrf.mono ?_
    rintro e' w3 ⟨rfl, hs3⟩
    have hfin := HB.out w3 _ _ (DevA.flushP_ok hp) ((DevA.flushS_small hsm p).le (by omega)) (DevA.flushS_len D p) (S.perm hs3.p4.left)
    clear hrf hs2 hs3
    go_wp2
    go_ret
    exact ⟨rfl, hfin⟩
set_option maxHeartbeats 4000000 in
theorem DoFail (x : ActA) (hkind : x.kind = 3) (hx : x.Ok) (hfates : ∀ w, S W0 w F → ReadsW w 1 x.fv x.fates.length (i64s x.fates)) (hm0 : m0 ≤ 12) (hm1 : m1 ≤ 12) (hn : n ≤ 900000) (hst : TwoSt W0 F t m0 m1 n w) :
    Calls Try.prog 15 #[.pointer (some ⟨t, 0, none⟩), .agg x.row.toArray] w fun e' w' => e' = .returned (.bool true) ∧ TwoSt W0 F t m0 m1 (n + 1) w' := by
  obtain ⟨kind, of_, at_, num, bit, turn, a, b, fill, size, fates, fv⟩ := x
  obtain ⟨_, ⟨o1, o2⟩, ⟨at1, at2⟩, ⟨n1, n2⟩, ⟨b1, b2⟩, ⟨t1, t2⟩, ⟨a1, a2⟩, ⟨bb1, bb2⟩, ⟨fi1, fi2⟩, ⟨s1, s2⟩, hfk⟩ := hx
  simp only at hkind o1 o2 at1 at2 n1 n2 b1 b2 t1 t2 a1 a2 bb1 bb2 fi1 fi2 s1 s2 hfk hfates
  first | subst hkind | skip
  obtain ⟨pw, q, d, e, p, D, R, c, hp, hsm, hl12, hcs, hc0, hc3, hcd, hce, hs, back⟩ := hst.pick (ofK_lt of_) hm0 hm1
  have hck := ofK_cases of_
  have hk2 := ofK_lt of_
  generalize ofK of_ = k at *
  have k0 : (0 : Int) ≤ k := by omega
  have k1 : (k : Int) < 2 := by omega
  have HB := Lib.hid back
  have HC := Lib.hid (⟨hcs, hc0, hc3, hcd, hce⟩ : _ ∧ _ ∧ _ ∧ _ ∧ _)
  clear back hst hcs hc0 hc3 hcd hce
  have hs0 := hs.alloc (.cells #[.int .i64 3, .int .i64 of_, .int .i64 at_, .int .i64 num, .int .i64 bit, .int .u32 turn, .int .u64 a, .int .u64 b, .int .u8 fill, .int .i64 size, fv] 40)
  have z1 : (w.alloc (.cells #[.int .i64 3, .int .i64 of_, .int .i64 at_, .int .i64 num, .int .i64 bit, .int .u32 turn, .int .u64 a, .int .u64 b, .int .u8 fill, .int .i64 size, fv] 40)).cell? ⟨t, 1 + k, none⟩ = some (.pointer (some ⟨d, 0, none⟩)) := by rw [cell_at hs0.p5.heap]; exact HC.out.2.2.2.1
  have z2 : (w.alloc (.cells #[.int .i64 3, .int .i64 of_, .int .i64 at_, .int .i64 num, .int .i64 bit, .int .u32 turn, .int .u64 a, .int .u64 b, .int .u8 fill, .int .i64 size, fv] 40)).cell? ⟨t, 4 + k, none⟩ = some (.pointer (some ⟨e, 0, none⟩)) := by rw [cell_at hs0.p5.heap]; exact HC.out.2.2.2.2
  simp only [ActA.row]
  clear hs
  rcases hck with ⟨hk, rfl⟩ | ⟨hk, rfl⟩ | ⟨hk, rfl⟩
  all_goals
    go_enter Try.func15, Try.ntmps15
    go_wp2
    go_quiet (fail)
    have hs1 := drewN_S nq hs0
    clear hs0 z1 z2 hk
    generalize (w.alloc (.cells #[.int .i64 3, .int .i64 of_, .int .i64 at_, .int .i64 num, .int .i64 bit, .int .u32 turn, .int .u64 a, .int .u64 b, .int .u8 fill, .int .i64 size, fv] 40)).drewN nq = w1 at hs1 ⊢
    generalize w.heap.size = ab at hs1 ⊢
    have y2 : w1.cell? ⟨ab, 0, none⟩ = some (.int .i64 3) := cell_at hs1.heap
    obtain ⟨a, rfl⟩ := Int.eq_ofNat_of_zero_le a1
    obtain ⟨b, rfl⟩ := Int.eq_ofNat_of_zero_le bb1
    have hA : a < 18446744073709551616 := by omega
    have hBd : b < 18446744073709551616 := by omega
    have y3 : w1.cell? ⟨ab, 6, none⟩ = some (.int .u64 (a : Int)) := cell_at hs1.heap
    have y4 : w1.cell? ⟨ab, 7, none⟩ = some (.int .u64 (b : Int)) := cell_at hs1.heap
    have hfl := DevFail W0 w1 _ d pw D a b hA hBd hs1.p2
    go_wp2_with fail
    refine hfl.mono ?_
    rintro e' w2 ⟨rfl, hs2⟩
    clear hfl hs1 y2 y3 y4
    have y3 : w2.cell? ⟨ab, 6, none⟩ = some (.int .u64 (a : Int)) := cell_at hs2.p1.heap
    have y4 : w2.cell? ⟨ab, 7, none⟩ = some (.int .u64 (b : Int)) := cell_at hs2.p1.heap
    obtain ⟨_, _, _, fr, _⟩ := rdevO.cells hs2.p2
    have f2 := fr 2
    have f3 := fr 3
    have hs3 := rdevO.setWrites (rdevO.setReads hs2.p2 hA) hBd
    have hfin := HB.out _ p { D with reads := a, writes := b } hp (hsm.le (by omega)) rfl (S.perm hs3.p2.left)
    clear hs3 fr
    go_wp2
    go_ret
    exact ⟨rfl, hfin⟩
set_option maxHeartbeats 4000000 in
theorem DoRot (x : ActA) (hkind : x.kind = 4) (hx : x.Ok) (hfates : ∀ w, S W0 w F → ReadsW w 1 x.fv x.fates.length (i64s x.fates)) (hm0 : m0 ≤ 12) (hm1 : m1 ≤ 12) (hn : n ≤ 900000) (hst : TwoSt W0 F t m0 m1 n w) :
    Calls Try.prog 15 #[.pointer (some ⟨t, 0, none⟩), .agg x.row.toArray] w fun e' w' => e' = .returned (.bool true) ∧ TwoSt W0 F t m0 m1 (n + 1) w' := by
  obtain ⟨kind, of_, at_, num, bit, turn, a, b, fill, size, fates, fv⟩ := x
  obtain ⟨_, ⟨o1, o2⟩, ⟨at1, at2⟩, ⟨n1, n2⟩, ⟨b1, b2⟩, ⟨t1, t2⟩, ⟨a1, a2⟩, ⟨bb1, bb2⟩, ⟨fi1, fi2⟩, ⟨s1, s2⟩, hfk⟩ := hx
  simp only at hkind o1 o2 at1 at2 n1 n2 b1 b2 t1 t2 a1 a2 bb1 bb2 fi1 fi2 s1 s2 hfk hfates
  first | subst hkind | skip
  obtain ⟨pw, q, d, e, p, D, R, c, hp, hsm, hl12, hcs, hc0, hc3, hcd, hce, hs, back⟩ := hst.pick (ofK_lt of_) hm0 hm1
  have hck := ofK_cases of_
  have hk2 := ofK_lt of_
  generalize ofK of_ = k at *
  have k0 : (0 : Int) ≤ k := by omega
  have k1 : (k : Int) < 2 := by omega
  have HB := Lib.hid back
  have HC := Lib.hid (⟨hcs, hc0, hc3, hcd, hce⟩ : _ ∧ _ ∧ _ ∧ _ ∧ _)
  clear back hst hcs hc0 hc3 hcd hce
  have hs0 := hs.alloc (.cells #[.int .i64 4, .int .i64 of_, .int .i64 at_, .int .i64 num, .int .i64 bit, .int .u32 turn, .int .u64 a, .int .u64 b, .int .u8 fill, .int .i64 size, fv] 40)
  have z1 : (w.alloc (.cells #[.int .i64 4, .int .i64 of_, .int .i64 at_, .int .i64 num, .int .i64 bit, .int .u32 turn, .int .u64 a, .int .u64 b, .int .u8 fill, .int .i64 size, fv] 40)).cell? ⟨t, 1 + k, none⟩ = some (.pointer (some ⟨d, 0, none⟩)) := by rw [cell_at hs0.p5.heap]; exact HC.out.2.2.2.1
  have z2 : (w.alloc (.cells #[.int .i64 4, .int .i64 of_, .int .i64 at_, .int .i64 num, .int .i64 bit, .int .u32 turn, .int .u64 a, .int .u64 b, .int .u8 fill, .int .i64 size, fv] 40)).cell? ⟨t, 4 + k, none⟩ = some (.pointer (some ⟨e, 0, none⟩)) := by rw [cell_at hs0.p5.heap]; exact HC.out.2.2.2.2
  simp only [ActA.row]
  clear hs
  rcases hck with ⟨hk, rfl⟩ | ⟨hk, rfl⟩ | ⟨hk, rfl⟩
  all_goals
    go_enter Try.func15, Try.ntmps15
    go_wp2
    go_quiet (fail)
    have hs1 := drewN_S nq hs0
    clear hs0 z1 z2 hk
    generalize (w.alloc (.cells #[.int .i64 4, .int .i64 of_, .int .i64 at_, .int .i64 num, .int .i64 bit, .int .u32 turn, .int .u64 a, .int .u64 b, .int .u8 fill, .int .i64 size, fv] 40)).drewN nq = w1 at hs1 ⊢
    generalize w.heap.size = ab at hs1 ⊢
    have y2 : w1.cell? ⟨ab, 0, none⟩ = some (.int .i64 4) := cell_at hs1.heap
    have y3 : w1.cell? ⟨ab, 2, none⟩ = some (.int .i64 at_) := cell_at hs1.heap
    have y4 : w1.cell? ⟨ab, 4, none⟩ = some (.int .i64 bit) := cell_at hs1.heap
    have y5 : w1.cell? ⟨ab, 5, none⟩ = some (.int .u32 turn) := cell_at hs1.heap
    go_wp2
    refine wp_region_S [(17, fun w => w.cell? ⟨ab, 2, none⟩ = some (.int .i64 at_) ∧ w.cell? ⟨ab, 4, none⟩ = some (.int .i64 bit) ∧ w.cell? ⟨ab, 5, none⟩ = some (.int .u32 turn))] rfl ?_ ?_
    · intro q hq
      simp only [List.mem_cons, List.not_mem_nil, or_false] at hq
      subst hq
      exact ⟨y3, y4, y5⟩
    refine WS.takeP (i := 0) (v := ?_) rfl (by kernel_rfl) (by kernel_rfl) (by kernel_rfl) rfl (fun _ _ _ h => h) (by rfl) (fun w1 => ?_) ?_
    rotate_left 1
    · go_simp; try with_reducible rfl
    try simp only [Act.put, List.setIfInBounds_toArray, List.set_cons_zero, List.set_cons_succ]
    refine WS.takeP (i := 1) (v := ?_) rfl (by kernel_rfl) (by kernel_rfl) (by kernel_rfl) rfl (fun _ _ _ h => h) (by rfl) (fun w1 => ?_) ?_
    rotate_left 1
    · go_simp; try with_reducible rfl
    try simp only [Act.put, List.setIfInBounds_toArray, List.set_cons_zero, List.set_cons_succ]
    refine WS.takeR (i := 2) (v := ?_) (17) _ (by first | exact .head _ | exact .tail _ (.head _) | exact .tail _ (.tail _ (.head _))) rfl (by kernel_rfl) (by kernel_rfl) (by kernel_rfl) rfl (by kernel_rfl) rfl (fun _ _ _ h => h) (by rfl) (fun w1 hR => ?_) ?_
    rotate_left 1
    · (obtain ⟨r1, r2, r3⟩ := hR); go_simp; try with_reducible rfl
    try simp only [Act.put, List.setIfInBounds_toArray, List.set_cons_zero, List.set_cons_succ]
    refine WS.takeP (i := 3) (v := ?_) rfl (by kernel_rfl) (by kernel_rfl) (by kernel_rfl) rfl (fun _ _ _ h => h) (by rfl) (fun w1 => ?_) ?_
    rotate_left 1
    · go_simp; try with_reducible rfl
    try simp only [Act.put, List.setIfInBounds_toArray, List.set_cons_zero, List.set_cons_succ]
    refine WS.takeR (i := 4) (v := ?_) (17) _ (by first | exact .head _ | exact .tail _ (.head _) | exact .tail _ (.tail _ (.head _))) rfl (by kernel_rfl) (by kernel_rfl) (by kernel_rfl) rfl (by kernel_rfl) rfl (fun _ _ _ h => h) (by rfl) (fun w1 hR => ?_) ?_
    rotate_left 1
    · (obtain ⟨r1, r2, r3⟩ := hR); go_simp; try with_reducible rfl
    try simp only [Act.put, List.setIfInBounds_toArray, List.set_cons_zero, List.set_cons_succ]
    refine WS.takeP (i := 5) (v := ?_) rfl (by kernel_rfl) (by kernel_rfl) (by kernel_rfl) rfl (fun _ _ _ h => h) (by rfl) (fun w1 => ?_) ?_
    rotate_left 1
    · go_simp; try with_reducible rfl
    try simp only [Act.put, List.setIfInBounds_toArray, List.set_cons_zero, List.set_cons_succ]
    refine WS.takeR (i := 6) (v := ?_) (17) _ (by first | exact .head _ | exact .tail _ (.head _) | exact .tail _ (.tail _ (.head _))) rfl (by kernel_rfl) (by kernel_rfl) (by kernel_rfl) rfl (by kernel_rfl) rfl (fun _ _ _ h => h) (by rfl) (fun w1 hR => ?_) ?_
    rotate_left 1
    · (obtain ⟨r1, r2, r3⟩ := hR); go_simp; try with_reducible rfl
    try simp only [Act.put, List.setIfInBounds_toArray, List.set_cons_zero, List.set_cons_succ]
    refine WS.takeP (i := 8) (v := ?_) rfl (by kernel_rfl) (by kernel_rfl) (by kernel_rfl) rfl (fun _ _ _ h => h) (by rfl) (fun w1 => ?_) ?_
    rotate_left 1
    · go_simp; try with_reducible rfl
    try simp only [Act.put, List.setIfInBounds_toArray, List.set_cons_zero, List.set_cons_succ]
    refine WS.takeP (i := 9) (v := ?_) rfl (by kernel_rfl) (by kernel_rfl) (by kernel_rfl) rfl (fun _ _ _ h => h) (by rfl) (fun w1 => ?_) ?_
    rotate_left 1
    · go_simp; try with_reducible rfl
    try simp only [Act.put, List.setIfInBounds_toArray, List.set_cons_zero, List.set_cons_succ]
    refine WS.takeR (i := 10) (v := ?_) (17) _ (by first | exact .head _ | exact .tail _ (.head _) | exact .tail _ (.tail _ (.head _))) rfl (by kernel_rfl) (by kernel_rfl) (by kernel_rfl) rfl (by kernel_rfl) rfl (fun _ _ _ h => h) (by rfl) (fun w1 hR => ?_) ?_
    rotate_left 1
    · (obtain ⟨r1, r2, r3⟩ := hR); go_simp; try with_reducible rfl
    try simp only [Act.put, List.setIfInBounds_toArray, List.set_cons_zero, List.set_cons_succ]
    refine WS.takeP (i := 11) (v := ?_) rfl (by kernel_rfl) (by kernel_rfl) (by kernel_rfl) rfl (fun _ _ _ h => h) (by rfl) (fun w1 => ?_) ?_
    rotate_left 1
    · go_simp; try with_reducible rfl
    try simp only [Act.put, List.setIfInBounds_toArray, List.set_cons_zero, List.set_cons_succ]
    refine WS.takeR (i := 12) (v := ?_) (17) _ (by first | exact .head _ | exact .tail _ (.head _) | exact .tail _ (.tail _ (.head _))) rfl (by kernel_rfl) (by kernel_rfl) (by kernel_rfl) rfl (by kernel_rfl) rfl (fun _ _ _ h => h) (by rfl) (fun w1 hR => ?_) ?_
    rotate_left 1
    · (obtain ⟨r1, r2, r3⟩ := hR); go_simp; try with_reducible rfl
    try simp only [Act.put, List.setIfInBounds_toArray, List.set_cons_zero, List.set_cons_succ]
    refine WS.takeP (i := 13) (v := ?_) rfl (by kernel_rfl) (by kernel_rfl) (by kernel_rfl) rfl (fun _ _ _ h => h) (by rfl) (fun w1 => ?_) ?_
    rotate_left 1
    · go_simp; try with_reducible rfl
    try simp only [Act.put, List.setIfInBounds_toArray, List.set_cons_zero, List.set_cons_succ]
    refine WS.takeR (i := 14) (v := ?_) (17) _ (by first | exact .head _ | exact .tail _ (.head _) | exact .tail _ (.tail _ (.head _))) rfl (by kernel_rfl) (by kernel_rfl) (by kernel_rfl) rfl (by kernel_rfl) rfl (fun _ _ _ h => h) (by rfl) (fun w1 hR => ?_) ?_
    rotate_left 1
    · (obtain ⟨r1, r2, r3⟩ := hR); go_simp; try with_reducible rfl
    try simp only [Act.put, List.setIfInBounds_toArray, List.set_cons_zero, List.set_cons_succ]
    have hro := DevRot W0 w1.drew _ d pw D at_ bit turn ⟨t1, t2⟩ hs1.drew.p2
    refine WS.one (i := 7) rfl (by kernel_rfl) (by rfl) (fun K hK => ?_)
    go_simp
    refine hro.mono ?_
    rintro e' w2 ⟨rfl, hs2⟩
    refine hK _ _ (fun q hq _ => ?_) ?_
    · simp only [List.mem_cons, List.not_mem_nil, or_false] at hq
      subst hq
      exact ⟨cell_at hs2.p1.heap, cell_at hs2.p1.heap, cell_at hs2.p1.heap⟩
    have hrr := RefRot W0 w2 _ e q D at_ bit turn ⟨t1, t2⟩ hs2.p2
    refine WS.one (i := 15) rfl (by kernel_rfl) (by rfl) (fun K hK => ?_)
    go_simp
    refine hrr.mono ?_
    rintro e' w3 ⟨rfl, hs3⟩
    refine hK _ _ (fun q hq hq2 => ?_) ?_
    · simp only [List.mem_cons, List.not_mem_nil, or_false] at hq
      subst hq
      exact ⟨cell_at hs3.p2.heap, cell_at hs3.p2.heap, cell_at hs3.p2.heap⟩
    refine WS.takeP (i := 16) (v := ?_) rfl (by kernel_rfl) (by kernel_rfl) (by kernel_rfl) rfl (fun _ _ _ h => h) (by rfl) (fun w1 => ?_) ?_
    rotate_left 1
    · go_simp; try with_reducible rfl
    try simp only [Act.put, List.setIfInBounds_toArray, List.set_cons_zero, List.set_cons_succ]
    refine WS.one (i := 17) rfl (by kernel_rfl) (by rfl) (fun K hK => ?_)
    go_simp
    refine hK _ _ (fun q hq hq2 => ?_) ?_
    · simp only [List.mem_cons, List.not_mem_nil, or_false] at hq
      subst hq
      revert hq2; simp
    refine WS.done (by kernel_rfl) ?_
    have hfin := HB.out w3 _ _ hp ((DevA.rotS_small hsm at_ bit turn).le (by omega)) (DevA.rotS_len D at_ bit turn) (S.perm hs3.p2.left)
    clear hs3 hs2 hrr hro hs1 y2 y3 y4 y5
    go_wp2
    go_ret
    exact ⟨rfl, hfin⟩
end
end Go.Proofs.Ytnkjkkbjplneeaa
