/-
  law08: the other kinds of acts, done with both; and any act.
-/
import Derived.Test.YtnkjkkbjplneeaaLaw08E
namespace Go.Proofs.Ytnkjkkbjplneeaa
open Go.RowKit Go.SL
set_option maxRecDepth 100000
set_option linter.unusedSimpArgs false
set_option linter.unusedVariables false
section
variable (W0 w : World) (F : HProp) (t m0 m1 n : Nat)
set_option maxHeartbeats 4000000 in
theorem DoFuse (x : ActA) (hkind : x.kind = 5) (hx : x.Ok) (hfates : ∀ w, S W0 w F → ReadsW w 1 x.fv x.fates.length (i64s x.fates)) (hm0 : m0 ≤ 12) (hm1 : m1 ≤ 12) (hn : n ≤ 900000) (hst : TwoSt W0 F t m0 m1 n w) :
    Calls Try.prog 15 #[.pointer (some ⟨t, 0, none⟩), .agg x.row.toArray] w fun e' w' => e' = .returned (.bool true) ∧ TwoSt W0 F t m0 m1 (n + 1) w' := by
  obtain ⟨kind, of_, at_, num, bit, turn, a, b, fill, size, fates, fv⟩ := x
  obtain ⟨_, ⟨o1, o2⟩, ⟨at1, at2⟩, ⟨n1, n2⟩, ⟨b1, b2⟩, ⟨t1, t2⟩, ⟨a1, a2⟩, ⟨bb1, bb2⟩, ⟨fi1, fi2⟩, ⟨s1, s2⟩, hfk⟩ := hx
  simp only at hkind o1 o2 at1 at2 n1 n2 b1 b2 t1 t2 a1 a2 bb1 bb2 fi1 fi2 s1 s2 hfk hfates
  first | subst hkind | skip
  obtain ⟨pw, q, d, e, p, D, R, c, hp, hsm, hl12, hcs, hc0, hc3, hcd, hce, hs, back⟩ := hst.pick (ofK_lt of_) hm0 hm1
  have hck := ofK_cases of_
  have hk2 := ofK_lt of_
  generalize ofK of_ = k at *
  have k0 : (0 : Int) ≤ k := by omega
  have k1 : (k : Int) < 2 := by omega
  have HB := Lib.hid back
  have HC := Lib.hid (⟨hcs, hc0, hc3, hcd, hce⟩ : _ ∧ _ ∧ _ ∧ _ ∧ _)
  clear back hst hcs hc0 hc3 hcd hce
  have hs0 := hs.alloc (.cells #[.int .i64 5, .int .i64 of_, .int .i64 at_, .int .i64 num, .int .i64 bit, .int .u32 turn, .int .u64 a, .int .u64 b, .int .u8 fill, .int .i64 size, fv] 40)
  have z1 : (w.alloc (.cells #[.int .i64 5, .int .i64 of_, .int .i64 at_, .int .i64 num, .int .i64 bit, .int .u32 turn, .int .u64 a, .int .u64 b, .int .u8 fill, .int .i64 size, fv] 40)).cell? ⟨t, 1 + k, none⟩ = some (.pointer (some ⟨d, 0, none⟩)) := by rw [cell_at hs0.p5.heap]; exact HC.out.2.2.2.1
  have z2 : (w.alloc (.cells #[.int .i64 5, .int .i64 of_, .int .i64 at_, .int .i64 num, .int .i64 bit, .int .u32 turn, .int .u64 a, .int .u64 b, .int .u8 fill, .int .i64 size, fv] 40)).cell? ⟨t, 4 + k, none⟩ = some (.pointer (some ⟨e, 0, none⟩)) := by rw [cell_at hs0.p5.heap]; exact HC.out.2.2.2.2
  simp only [ActA.row]
  clear hs
  rcases hck with ⟨hk, rfl⟩ | ⟨hk, rfl⟩ | ⟨hk, rfl⟩
  all_goals
    go_enter Try.func15, Try.ntmps15
    go_wp2
    go_quiet (fail)
    have hs1 := drewN_S nq hs0
    clear hs0 z1 z2 hk
    generalize (w.alloc (.cells #[.int .i64 5, .int .i64 of_, .int .i64 at_, .int .i64 num, .int .i64 bit, .int .u32 turn, .int .u64 a, .int .u64 b, .int .u8 fill, .int .i64 size, fv] 40)).drewN nq = w1 at hs1 ⊢
    generalize w.heap.size = ab at hs1 ⊢
    have y2 : w1.cell? ⟨ab, 0, none⟩ = some (.int .i64 5) := cell_at hs1.heap
    have y3 : w1.cell? ⟨ab, 3, none⟩ = some (.int .i64 num) := cell_at hs1.heap
    have u0 : w1.cell? ⟨t, 0, none⟩ = some (.pointer (some ⟨pw, 0, none⟩)) := by rw [cell_at hs1.p5.heap]; exact HC.out.2.1
    have u3 : w1.cell? ⟨t, 2 + 1, none⟩ = some (.pointer (some ⟨q, 0, none⟩)) := by rw [cell_at hs1.p5.heap]; exact HC.out.2.2.1
    go_wp2
    refine wp_region_S [(15, fun w => w.cell? ⟨ab, 3, none⟩ = some (.int .i64 num) ∧ w.cell? ⟨t, 0, none⟩ = some (.pointer (some ⟨pw, 0, none⟩)) ∧ w.cell? ⟨t, 3, none⟩ = some (.pointer (some ⟨q, 0, none⟩)))] rfl ?_ ?_
    · intro q hq
      simp only [List.mem_cons, List.not_mem_nil, or_false] at hq
      subst hq
      exact ⟨y3, u0, u3⟩
    refine WS.takeP (i := 0) (v := ?_) rfl (by kernel_rfl) (by kernel_rfl) (by kernel_rfl) rfl (fun _ _ _ h => h) (by rfl) (fun w1 => ?_) ?_
    rotate_left 1
    · go_simp; try with_reducible rfl
    try simp only [Act.put, List.setIfInBounds_toArray, List.set_cons_zero, List.set_cons_succ]
    refine WS.takeP (i := 1) (v := ?_) rfl (by kernel_rfl) (by kernel_rfl) (by kernel_rfl) rfl (fun _ _ _ h => h) (by rfl) (fun w1 => ?_) ?_
    rotate_left 1
    · go_simp; try with_reducible rfl
    try simp only [Act.put, List.setIfInBounds_toArray, List.set_cons_zero, List.set_cons_succ]
    refine WS.takeP (i := 2) (v := ?_) rfl (by kernel_rfl) (by kernel_rfl) (by kernel_rfl) rfl (fun _ _ _ h => h) (by rfl) (fun w1 => ?_) ?_
    rotate_left 1
    · go_simp; try with_reducible rfl
    try simp only [Act.put, List.setIfInBounds_toArray, List.set_cons_zero, List.set_cons_succ]
    refine WS.takeR (i := 3) (v := ?_) (15) _ (by first | exact .head _ | exact .tail _ (.head _) | exact .tail _ (.tail _ (.head _))) rfl (by kernel_rfl) (by kernel_rfl) (by kernel_rfl) rfl (by kernel_rfl) rfl (fun _ _ _ h => h) (by rfl) (fun w1 hR => ?_) ?_
    rotate_left 1
    · (obtain ⟨r1, r2, r3⟩ := hR); go_simp; try with_reducible rfl
    try simp only [Act.put, List.setIfInBounds_toArray, List.set_cons_zero, List.set_cons_succ]
    refine WS.takeP (i := 4) (v := ?_) rfl (by kernel_rfl) (by kernel_rfl) (by kernel_rfl) rfl (fun _ _ _ h => h) (by rfl) (fun w1 => ?_) ?_
    rotate_left 1
    · go_simp; try with_reducible rfl
    try simp only [Act.put, List.setIfInBounds_toArray, List.set_cons_zero, List.set_cons_succ]
    refine WS.takeR (i := 5) (v := ?_) (15) _ (by first | exact .head _ | exact .tail _ (.head _) | exact .tail _ (.tail _ (.head _))) rfl (by kernel_rfl) (by kernel_rfl) (by kernel_rfl) rfl (by kernel_rfl) rfl (fun _ _ _ h => h) (by rfl) (fun w1 hR => ?_) ?_
    rotate_left 1
    · (obtain ⟨r1, r2, r3⟩ := hR); go_simp; try with_reducible rfl
    try simp only [Act.put, List.setIfInBounds_toArray, List.set_cons_zero, List.set_cons_succ]
    refine WS.takeP (i := 7) (v := ?_) rfl (by kernel_rfl) (by kernel_rfl) (by kernel_rfl) rfl (fun _ _ _ h => h) (by rfl) (fun w1 => ?_) ?_
    rotate_left 1
    · go_simp; try with_reducible rfl
    try simp only [Act.put, List.setIfInBounds_toArray, List.set_cons_zero, List.set_cons_succ]
    refine WS.takeP (i := 8) (v := ?_) rfl (by kernel_rfl) (by kernel_rfl) (by kernel_rfl) rfl (fun _ _ _ h => h) (by rfl) (fun w1 => ?_) ?_
    rotate_left 1
    · go_simp; try with_reducible rfl
    try simp only [Act.put, List.setIfInBounds_toArray, List.set_cons_zero, List.set_cons_succ]
    refine WS.takeP (i := 9) (v := ?_) rfl (by kernel_rfl) (by kernel_rfl) (by kernel_rfl) rfl (fun _ _ _ h => h) (by rfl) (fun w1 => ?_) ?_
    rotate_left 1
    · go_simp; try with_reducible rfl
    try simp only [Act.put, List.setIfInBounds_toArray, List.set_cons_zero, List.set_cons_succ]
    refine WS.takeR (i := 10) (v := ?_) (15) _ (by first | exact .head _ | exact .tail _ (.head _) | exact .tail _ (.tail _ (.head _))) rfl (by kernel_rfl) (by kernel_rfl) (by kernel_rfl) rfl (by kernel_rfl) rfl (fun _ _ _ h => h) (by rfl) (fun w1 hR => ?_) ?_
    rotate_left 1
    · (obtain ⟨r1, r2, r3⟩ := hR); go_simp; try with_reducible rfl
    try simp only [Act.put, List.setIfInBounds_toArray, List.set_cons_zero, List.set_cons_succ]
    refine WS.takeP (i := 11) (v := ?_) rfl (by kernel_rfl) (by kernel_rfl) (by kernel_rfl) rfl (fun _ _ _ h => h) (by rfl) (fun w1 => ?_) ?_
    rotate_left 1
    · go_simp; try with_reducible rfl
    try simp only [Act.put, List.setIfInBounds_toArray, List.set_cons_zero, List.set_cons_succ]
    refine WS.takeR (i := 12) (v := ?_) (15) _ (by first | exact .head _ | exact .tail _ (.head _) | exact .tail _ (.tail _ (.head _))) rfl (by kernel_rfl) (by kernel_rfl) (by kernel_rfl) rfl (by kernel_rfl) rfl (fun _ _ _ h => h) (by rfl) (fun w1 hR => ?_) ?_
    rotate_left 1
    · (obtain ⟨r1, r2, r3⟩ := hR); go_simp; try with_reducible rfl
    try simp only [Act.put, List.setIfInBounds_toArray, List.set_cons_zero, List.set_cons_succ]
    have hfu := PowFuse W0 w1.drew _ pw p num hs1.drew.p4
    refine WS.one (i := 6) rfl (by kernel_rfl) (by rfl) (fun K hK => ?_)
    go_simp
    refine hfu.mono ?_
    rintro e' w2 ⟨rfl, hs2⟩
    refine hK _ _ (fun q hq _ => ?_) ?_
    · simp only [List.mem_cons, List.not_mem_nil, or_false] at hq
      subst hq
      refine ⟨cell_at hs2.p1.heap, ?_, ?_⟩
      · rw [cell_at hs2.p5.heap]; exact HC.out.2.1
      · rw [cell_at hs2.p5.heap]; exact HC.out.2.2.1
    have hrf := RPowFuse W0 w2 _ q p num hs2.p4
    refine WS.one (i := 13) rfl (by kernel_rfl) (by rfl) (fun K hK => ?_)
    go_simp
    refine hrf.mono ?_
    rintro e' w3 ⟨rfl, hs3⟩
    refine hK _ _ (fun q hq hq2 => ?_) ?_
    · simp only [List.mem_cons, List.not_mem_nil, or_false] at hq
      subst hq
      refine ⟨cell_at hs3.p2.heap, ?_, ?_⟩
      · rw [cell_at hs3.p5.heap]; exact HC.out.2.1
      · rw [cell_at hs3.p5.heap]; exact HC.out.2.2.1
    refine WS.takeP (i := 14) (v := ?_) rfl (by kernel_rfl) (by kernel_rfl) (by kernel_rfl) rfl (fun _ _ _ h => h) (by rfl) (fun w1 => ?_) ?_
    rotate_left 1
    · go_simp; try with_reducible rfl
    try simp only [Act.put, List.setIfInBounds_toArray, List.set_cons_zero, List.set_cons_succ]
    refine WS.one (i := 15) rfl (by kernel_rfl) (by rfl) (fun K hK => ?_)
    go_simp
    refine hK _ _ (fun q hq hq2 => ?_) ?_
    · simp only [List.mem_cons, List.not_mem_nil, or_false] at hq
      subst hq
      revert hq2; simp
    refine WS.done (by kernel_rfl) ?_
    have hfin := HB.out w3 _ _ (DevA.fuse_ok hp num) (hsm.le (by omega)) rfl (S.perm hs3.p2.left)
    clear hs3 hs2 hrf hfu hs1 y2 y3 u0 u3
    go_wp2
    go_ret
    exact ⟨rfl, hfin⟩
set_option maxHeartbeats 4000000 in
theorem DoCut (x : ActA) (hkind : x.kind = 6) (hx : x.Ok) (hfates : ∀ w, S W0 w F → ReadsW w 1 x.fv x.fates.length (i64s x.fates)) (hm0 : m0 ≤ 12) (hm1 : m1 ≤ 12) (hn : n ≤ 900000) (hst : TwoSt W0 F t m0 m1 n w) :
    Calls Try.prog 15 #[.pointer (some ⟨t, 0, none⟩), .agg x.row.toArray] w fun e' w' => e' = .returned (.bool true) ∧ TwoSt W0 F t m0 m1 (n + 1) w' := by
  obtain ⟨kind, of_, at_, num, bit, turn, a, b, fill, size, fates, fv⟩ := x
  obtain ⟨_, ⟨o1, o2⟩, ⟨at1, at2⟩, ⟨n1, n2⟩, ⟨b1, b2⟩, ⟨t1, t2⟩, ⟨a1, a2⟩, ⟨bb1, bb2⟩, ⟨fi1, fi2⟩, ⟨s1, s2⟩, hfk⟩ := hx
  simp only at hkind o1 o2 at1 at2 n1 n2 b1 b2 t1 t2 a1 a2 bb1 bb2 fi1 fi2 s1 s2 hfk hfates
  first | subst hkind | skip
  obtain ⟨pw, q, d, e, p, D, R, c, hp, hsm, hl12, hcs, hc0, hc3, hcd, hce, hs, back⟩ := hst.pick (ofK_lt of_) hm0 hm1
  have hck := ofK_cases of_
  have hk2 := ofK_lt of_
  generalize ofK of_ = k at *
  have k0 : (0 : Int) ≤ k := by omega
  have k1 : (k : Int) < 2 := by omega
  have HB := Lib.hid back
  have HC := Lib.hid (⟨hcs, hc0, hc3, hcd, hce⟩ : _ ∧ _ ∧ _ ∧ _ ∧ _)
  clear back hst hcs hc0 hc3 hcd hce
  have hs0 := hs.alloc (.cells #[.int .i64 6, .int .i64 of_, .int .i64 at_, .int .i64 num, .int .i64 bit, .int .u32 turn, .int .u64 a, .int .u64 b, .int .u8 fill, .int .i64 size, fv] 40)
  have z1 : (w.alloc (.cells #[.int .i64 6, .int .i64 of_, .int .i64 at_, .int .i64 num, .int .i64 bit, .int .u32 turn, .int .u64 a, .int .u64 b, .int .u8 fill, .int .i64 size, fv] 40)).cell? ⟨t, 1 + k, none⟩ = some (.pointer (some ⟨d, 0, none⟩)) := by rw [cell_at hs0.p5.heap]; exact HC.out.2.2.2.1
  have z2 : (w.alloc (.cells #[.int .i64 6, .int .i64 of_, .int .i64 at_, .int .i64 num, .int .i64 bit, .int .u32 turn, .int .u64 a, .int .u64 b, .int .u8 fill, .int .i64 size, fv] 40)).cell? ⟨t, 4 + k, none⟩ = some (.pointer (some ⟨e, 0, none⟩)) := by rw [cell_at hs0.p5.heap]; exact HC.out.2.2.2.2
  simp only [ActA.row]
  clear hs
  rcases hck with ⟨hk, rfl⟩ | ⟨hk, rfl⟩ | ⟨hk, rfl⟩
  all_goals
    go_enter Try.func15, Try.ntmps15
    go_wp2
    go_quiet (fail)
    have hs1 := drewN_S nq hs0
    clear hs0 z1 z2 hk
    generalize (w.alloc (.cells #[.int .i64 6, .int .i64 of_, .int .i64 at_, .int .i64 num, .int .i64 bit, .int .u32 turn, .int .u64 a, .int .u64 b, .int .u8 fill, .int .i64 size, fv] 40)).drewN nq = w1 at hs1 ⊢
    generalize w.heap.size = ab at hs1 ⊢
    have y2 : w1.cell? ⟨ab, 0, none⟩ = some (.int .i64 6) := cell_at hs1.heap
    have u0 : w1.cell? ⟨t, 0, none⟩ = some (.pointer (some ⟨pw, 0, none⟩)) := by rw [cell_at hs1.p5.heap]; exact HC.out.2.1
    have hcu := PowCut W0 w1 _ pw p hs1.p4
    go_wp2_with fail
    refine hcu.mono ?_
    rintro e' w2 ⟨rfl, hs2⟩
    clear hcu hs1 u0 y2
    have u3 : w2.cell? ⟨t, 3, none⟩ = some (.pointer (some ⟨q, 0, none⟩)) := by rw [cell_at hs2.p5.heap]; exact HC.out.2.2.1
    obtain ⟨left, hl, hs3⟩ := rpowO.open hs2.p4
    have f0 : w2.frozen? ⟨q, 0, none⟩ = false := free_at hs3.heap
    have g0 : w2.cell? ⟨q, 0, none⟩ = some (.bool p.off) := cell_at hs3.heap
    have hs4 := rpowO.shut (p := p.cut) (left := left) (hs3.set (i := 0) (v := .bool true)) hl
    have hfin := HB.out _ p.cut D hp (hsm.le (by omega)) rfl (S.perm hs4.p2.left)
    clear hs3 hs2 hs4
    go_wp2
    go_ret
    exact ⟨rfl, hfin⟩
set_option maxHeartbeats 4000000 in
theorem DoCrashes (x : ActA) (hkind : x.kind = 7) (hx : x.Ok) (hfates : ∀ w, S W0 w F → ReadsW w 1 x.fv x.fates.length (i64s x.fates)) (hm0 : m0 ≤ 12) (hm1 : m1 ≤ 12) (hn : n ≤ 900000) (hst : TwoSt W0 F t m0 m1 n w) :
    Calls Try.prog 15 #[.pointer (some ⟨t, 0, none⟩), .agg x.row.toArray] w fun e' w' => e' = .returned (.bool true) ∧ TwoSt W0 F t m0 m1 (n + 1) w' := by
  obtain ⟨kind, of_, at_, num, bit, turn, a, b, fill, size, fates, fv⟩ := x
  obtain ⟨_, ⟨o1, o2⟩, ⟨at1, at2⟩, ⟨n1, n2⟩, ⟨b1, b2⟩, ⟨t1, t2⟩, ⟨a1, a2⟩, ⟨bb1, bb2⟩, ⟨fi1, fi2⟩, ⟨s1, s2⟩, hfk⟩ := hx
  simp only at hkind o1 o2 at1 at2 n1 n2 b1 b2 t1 t2 a1 a2 bb1 bb2 fi1 fi2 s1 s2 hfk hfates
  first | subst hkind | skip
  obtain ⟨pw, q, d, e, p, D, R, c, hp, hsm, hl12, hcs, hc0, hc3, hcd, hce, hs, back⟩ := hst.pick (ofK_lt of_) hm0 hm1
  have hck := ofK_cases of_
  have hk2 := ofK_lt of_
  generalize ofK of_ = k at *
  have k0 : (0 : Int) ≤ k := by omega
  have k1 : (k : Int) < 2 := by omega
  have HB := Lib.hid back
  have HC := Lib.hid (⟨hcs, hc0, hc3, hcd, hce⟩ : _ ∧ _ ∧ _ ∧ _ ∧ _)
  clear back hst hcs hc0 hc3 hcd hce
  have hs0 := hs.alloc (.cells #[.int .i64 7, .int .i64 of_, .int .i64 at_, .int .i64 num, .int .i64 bit, .int .u32 turn, .int .u64 a, .int .u64 b, .int .u8 fill, .int .i64 size, fv] 40)
  have z1 : (w.alloc (.cells #[.int .i64 7, .int .i64 of_, .int .i64 at_, .int .i64 num, .int .i64 bit, .int .u32 turn, .int .u64 a, .int .u64 b, .int .u8 fill, .int .i64 size, fv] 40)).cell? ⟨t, 1 + k, none⟩ = some (.pointer (some ⟨d, 0, none⟩)) := by rw [cell_at hs0.p5.heap]; exact HC.out.2.2.2.1
  have z2 : (w.alloc (.cells #[.int .i64 7, .int .i64 of_, .int .i64 at_, .int .i64 num, .int .i64 bit, .int .u32 turn, .int .u64 a, .int .u64 b, .int .u8 fill, .int .i64 size, fv] 40)).cell? ⟨t, 4 + k, none⟩ = some (.pointer (some ⟨e, 0, none⟩)) := by rw [cell_at hs0.p5.heap]; exact HC.out.2.2.2.2
  simp only [ActA.row]
  clear hs
  rcases hck with ⟨hk, rfl⟩ | ⟨hk, rfl⟩ | ⟨hk, rfl⟩
  all_goals
    go_enter Try.func15, Try.ntmps15
    go_wp2
    go_quiet (fail)
    have hs1 := drewN_S nq hs0
    clear hs0 z1 z2 hk
    generalize (w.alloc (.cells #[.int .i64 7, .int .i64 of_, .int .i64 at_, .int .i64 num, .int .i64 bit, .int .u32 turn, .int .u64 a, .int .u64 b, .int .u8 fill, .int .i64 size, fv] 40)).drewN nq = w1 at hs1 ⊢
    generalize w.heap.size = ab at hs1 ⊢
    have y2 : w1.cell? ⟨ab, 0, none⟩ = some (.int .i64 7) := cell_at hs1.heap
    have y3 : w1.cell? ⟨ab, 10, none⟩ = some fv := cell_at hs1.heap
    obtain ⟨g, p3, D0, D1, hgt, hp3, ⟨l0, l1⟩, ⟨s0, s1'⟩, hs2⟩ := HB.out w1 p D hp (hsm.le (by omega)) rfl (S.perm hs1.left)
    have hsh := (hfates w1 (S.left (S.left (S.left hs2)))).shape
    obtain ⟨fad, fm, rfl⟩ := hsh
    have hcr := Law08Crash W0 w1 F g p3 D0 D1 fates _ ⟨by have := D0.looseL_le; omega, by have := D1.looseL_le; omega⟩ ⟨s0.le (by omega), s1'.le (by omega)⟩ hfk hfates hs2
    have hfin : ∀ w' : World, (∃ g' : TwoG, g'.t = t ∧ S W0 w' (F * sideD g' .new (D0.fitted fates) (D1.fitted fates) * sideR g' .new (D0.fitted fates) (D1.fitted fates) * twoB g')) → TwoSt W0 F t m0 m1 (n + 1) w' := by
      rintro w' ⟨g', h1, h2⟩
      exact ⟨g', .new, _, _, h1, ⟨by simp [PowA.new], by simp [PowA.new]⟩, ⟨(DevA.fitted_len D0 fates).trans l0, (DevA.fitted_len D1 fates).trans l1⟩, ⟨DevA.crashD_small _ _ _, DevA.crashD_small _ _ _⟩, h2⟩
    have HF := Lib.hid hfin
    rw [hgt] at hcr
    clear hs1 hs2 l0 l1 hfin hgt
    go_wp2_with fail
    refine hcr.mono ?_
    rintro e' w2 ⟨rfl, hs3⟩
    go_wp2
    go_ret
    exact ⟨rfl, HF.out _ hs3⟩
set_option maxHeartbeats 4000000 in
theorem DoCrashRaw (x : ActA) (hkind : x.kind = 8) (hx : x.Ok) (hfates : ∀ w, S W0 w F → ReadsW w 1 x.fv x.fates.length (i64s x.fates)) (hm0 : m0 ≤ 12) (hm1 : m1 ≤ 12) (hn : n ≤ 900000) (hst : TwoSt W0 F t m0 m1 n w) :
    Calls Try.prog 15 #[.pointer (some ⟨t, 0, none⟩), .agg x.row.toArray] w fun e' w' => e' = .returned (.bool true) ∧ TwoSt W0 F t m0 m1 (n + 1) w' := by
  obtain ⟨kind, of_, at_, num, bit, turn, a, b, fill, size, fates, fv⟩ := x
  obtain ⟨_, ⟨o1, o2⟩, ⟨at1, at2⟩, ⟨n1, n2⟩, ⟨b1, b2⟩, ⟨t1, t2⟩, ⟨a1, a2⟩, ⟨bb1, bb2⟩, ⟨fi1, fi2⟩, ⟨s1, s2⟩, hfk⟩ := hx
  simp only at hkind o1 o2 at1 at2 n1 n2 b1 b2 t1 t2 a1 a2 bb1 bb2 fi1 fi2 s1 s2 hfk hfates
  first | subst hkind | skip
  obtain ⟨pw, q, d, e, p, D, R, c, hp, hsm, hl12, hcs, hc0, hc3, hcd, hce, hs, back⟩ := hst.pick (ofK_lt of_) hm0 hm1
  have hck := ofK_cases of_
  have hk2 := ofK_lt of_
  generalize ofK of_ = k at *
  have k0 : (0 : Int) ≤ k := by omega
  have k1 : (k : Int) < 2 := by omega
  have HB := Lib.hid back
  have HC := Lib.hid (⟨hcs, hc0, hc3, hcd, hce⟩ : _ ∧ _ ∧ _ ∧ _ ∧ _)
  clear back hst hcs hc0 hc3 hcd hce
  have hs0 := hs.alloc (.cells #[.int .i64 8, .int .i64 of_, .int .i64 at_, .int .i64 num, .int .i64 bit, .int .u32 turn, .int .u64 a, .int .u64 b, .int .u8 fill, .int .i64 size, fv] 40)
  have z1 : (w.alloc (.cells #[.int .i64 8, .int .i64 of_, .int .i64 at_, .int .i64 num, .int .i64 bit, .int .u32 turn, .int .u64 a, .int .u64 b, .int .u8 fill, .int .i64 size, fv] 40)).cell? ⟨t, 1 + k, none⟩ = some (.pointer (some ⟨d, 0, none⟩)) := by rw [cell_at hs0.p5.heap]; exact HC.out.2.2.2.1
  have z2 : (w.alloc (.cells #[.int .i64 8, .int .i64 of_, .int .i64 at_, .int .i64 num, .int .i64 bit, .int .u32 turn, .int .u64 a, .int .u64 b, .int .u8 fill, .int .i64 size, fv] 40)).cell? ⟨t, 4 + k, none⟩ = some (.pointer (some ⟨e, 0, none⟩)) := by rw [cell_at hs0.p5.heap]; exact HC.out.2.2.2.2
  simp only [ActA.row]
  clear hs
  rcases hck with ⟨hk, rfl⟩ | ⟨hk, rfl⟩ | ⟨hk, rfl⟩
  all_goals
    have hL12 : D.looseL.length ≤ 12 := by have := D.looseL_le; omega
    go_enter Try.func15, Try.ntmps15
    go_wp2
    go_quiet (fail)
    have hs1 := drewN_S nq hs0
    clear hs0 z1 z2 hk
    generalize (w.alloc (.cells #[.int .i64 8, .int .i64 of_, .int .i64 at_, .int .i64 num, .int .i64 bit, .int .u32 turn, .int .u64 a, .int .u64 b, .int .u8 fill, .int .i64 size, fv] 40)).drewN nq = w1 at hs1 ⊢
    generalize w.heap.size = ab at hs1 ⊢
    have y2 : w1.cell? ⟨ab, 0, none⟩ = some (.int .i64 8) := cell_at hs1.heap
    have y3 : w1.cell? ⟨ab, 10, none⟩ = some fv := cell_at hs1.heap
    have hsh := (hfates w1 (S.left (S.left (S.left (S.left (S.left (S.left (S.left hs1)))))))).shape
    obtain ⟨fad, fm, rfl⟩ := hsh
    go_wp2
    refine wp_region_S [(9, fun w => w.cell? ⟨ab, 10, none⟩ = some (.slice fad fates.length fm))] rfl ?_ ?_
    · intro q hq
      simp only [List.mem_cons, List.not_mem_nil, or_false] at hq
      subst hq
      exact y3
    refine WS.takeP (i := 0) (v := ?_) rfl (by kernel_rfl) (by kernel_rfl) (by kernel_rfl) rfl (fun _ _ _ h => h) (by rfl) (fun w1 => ?_) ?_
    rotate_left 1
    · go_simp; try with_reducible rfl
    try simp only [Act.put, List.setIfInBounds_toArray, List.set_cons_zero, List.set_cons_succ]
    refine WS.takeP (i := 2) (v := ?_) rfl (by kernel_rfl) (by kernel_rfl) (by kernel_rfl) rfl (fun _ _ _ h => h) (by rfl) (fun w1 => ?_) ?_
    rotate_left 1
    · go_simp; try with_reducible rfl
    try simp only [Act.put, List.setIfInBounds_toArray, List.set_cons_zero, List.set_cons_succ]
    refine WS.takeR (i := 3) (v := ?_) (9) _ (by first | exact .head _ | exact .tail _ (.head _) | exact .tail _ (.tail _ (.head _))) rfl (by kernel_rfl) (by kernel_rfl) (by kernel_rfl) rfl (by kernel_rfl) rfl (fun _ _ _ h => h) (by rfl) (fun w1 hR => ?_) ?_
    rotate_left 1
    · (skip); go_simp; try with_reducible rfl
    try simp only [Act.put, List.setIfInBounds_toArray, List.set_cons_zero, List.set_cons_succ]
    have hpn := PowNew W0 w1.drew _ hs1.drew
    refine WS.one (i := 1) rfl (by kernel_rfl) (by rfl) (fun K hK => ?_)
    go_simp
    refine hpn.mono ?_
    rintro e' w2 ⟨pw2, rfl, hs2⟩
    refine hK _ _ (fun q hq _ => ?_) ?_
    · simp only [List.mem_cons, List.not_mem_nil, or_false] at hq
      subst hq
      exact cell_at hs2.p1.heap
    have hcr := DevCrash W0 w2 _ d pw pw2 D .new fates hL12 _ (fun w h => hfates w h.left.left.left.left.left) (S.perm (B := F * R * blk t (.cells c 34 (0, 0)) * powO pw p * rpowO q p * (rdevO e q D * blk ab (.cells #[.int .i64 8, .int .i64 of_, .int .i64 at_, .int .i64 num, .int .i64 bit, .int .u32 turn, .int .u64 a, .int .u64 b, .int .u8 fill, .int .i64 size, .slice fad fates.length fm] 40 (0, 0))) * devO d pw D * powO pw2 .new) hs2)
    refine WS.one (i := 4) rfl (by kernel_rfl) (by rfl) (fun K hK => ?_)
    go_simp
    refine hcr.mono ?_
    rintro e' w3 (⟨hce, rfl, hs3⟩ | ⟨hce, x, rfl, hs3⟩)
    · have hE : (D.crashE fates == 0) = false := by simpa using hce
      have hs4 : S W0 w3 (F * R * blk t (.cells c 34 (0, 0)) * powO pw p * rpowO q p * devO d pw D * (blk ab (.cells #[.int .i64 8, .int .i64 of_, .int .i64 at_, .int .i64 num, .int .i64 bit, .int .u32 turn, .int .u64 a, .int .u64 b, .int .u8 fill, .int .i64 size, .slice fad fates.length fm] 40 (0, 0))) * rdevO e q D) := by
        have h : S W0 w3 (F * R * blk t (.cells c 34 (0, 0)) * powO pw p * rpowO q p * devO d pw D * (blk ab (.cells #[.int .i64 8, .int .i64 of_, .int .i64 at_, .int .i64 num, .int .i64 bit, .int .u32 turn, .int .u64 a, .int .u64 b, .int .u8 fill, .int .i64 size, .slice fad fates.length fm] 40 (0, 0))) * rdevO e q D * powO pw2 .new) := hs3.perm
        exact h.left
      refine hK _ _ (fun q hq _ => ?_) ?_
      · simp only [List.mem_cons, List.not_mem_nil, or_false] at hq
        subst hq
        exact cell_at hs4.p1.heap
      refine WS.takeP (i := 5) (v := ?_) rfl (by kernel_rfl) (by kernel_rfl) (by kernel_rfl) rfl (fun _ _ _ h => h) (by rfl) (fun w1 => ?_) ?_
      rotate_left 1
      · go_simp; try with_reducible rfl
      try simp only [Act.put, List.setIfInBounds_toArray, List.set_cons_zero, List.set_cons_succ]
      refine WS.takeP (i := 6) (v := ?_) rfl (by kernel_rfl) (by kernel_rfl) (by kernel_rfl) rfl (fun _ _ _ h => h) (by rfl) (fun w1 => ?_) ?_
      rotate_left 1
      · go_simp; try with_reducible rfl
      try simp only [Act.put, List.setIfInBounds_toArray, List.set_cons_zero, List.set_cons_succ]
      refine WS.takeP (i := 8) (v := _) rfl (by kernel_rfl) (by kernel_rfl) (by kernel_rfl) rfl (fun _ _ _ h => h) (by rfl) (fun w1 => (by go_simp; rfl)) ?_
      refine WS.takeP (i := 7) (v := ?_) rfl (by kernel_rfl) (by kernel_rfl) (by kernel_rfl) rfl (fun _ _ _ h => h) (by rfl) (fun w1 => ?_) ?_
      rotate_left 1
      · go_simp; try with_reducible rfl
      try simp only [Act.put, List.setIfInBounds_toArray, List.set_cons_zero, List.set_cons_succ]
      refine WS.one (i := 9) rfl (by kernel_rfl) (by rfl) (fun K hK => ?_)
      go_simp
      refine hK _ _ (fun q hq hq2 => ?_) ?_
      · simp only [List.mem_cons, List.not_mem_nil, or_false] at hq
        subst hq
        revert hq2; simp
      refine WS.done (by kernel_rfl) ?_
      have hal := hs4.alloc (.cells #[.bool false, .bool false, .int .i64 0, .int .i64 0] 81)
      have y10 : (w3.alloc (.cells #[.bool false, .bool false, .int .i64 0, .int .i64 0] 81)).cell? ⟨ab, 10, none⟩ = some (.slice fad fates.length fm) := cell_at hal.p2.heap
      have hrc := RefCrash W0 _ _ e q w3.heap.size D fates (by omega) _ (fun w h => hfates w h.left.left.left.left.left.left.left) hal.p1
      clear hal
      go_wp2_with fail
      refine hrc.mono ?_
      rintro e' w4 (⟨_, rfl, hs5⟩ | ⟨h, _⟩)
      rotate_left
      · exact absurd h hce
      have hfin := HB.out w4 p D hp (hsm.le (by omega)) rfl (S.perm hs5.p1.left.p1.left)
      clear hs5 hs4 hs3 hs2 hcr hpn hs1 y2 y3 y10 hrc
      go_wp2
      go_ret
      exact ⟨rfl, hfin⟩
    · have hs4 : S W0 w3 (F * R * blk t (.cells c 34 (0, 0)) * powO pw p * rpowO q p * devO d pw D * (blk ab (.cells #[.int .i64 8, .int .i64 of_, .int .i64 at_, .int .i64 num, .int .i64 bit, .int .u32 turn, .int .u64 a, .int .u64 b, .int .u8 fill, .int .i64 size, .slice fad fates.length fm] 40 (0, 0))) * rdevO e q D) := by
        have h : S W0 w3 (F * R * blk t (.cells c 34 (0, 0)) * powO pw p * rpowO q p * devO d pw D * (blk ab (.cells #[.int .i64 8, .int .i64 of_, .int .i64 at_, .int .i64 num, .int .i64 bit, .int .u32 turn, .int .u64 a, .int .u64 b, .int .u8 fill, .int .i64 size, .slice fad fates.length fm] 40 (0, 0))) * rdevO e q D * powO pw2 .new * devO x pw2 (D.crashD fates)) := hs3.perm
        exact h.left.left
      refine hK _ _ (fun q hq _ => ?_) ?_
      · simp only [List.mem_cons, List.not_mem_nil, or_false] at hq
        subst hq
        exact cell_at hs4.p1.heap
      refine WS.takeP (i := 5) (v := ?_) rfl (by kernel_rfl) (by kernel_rfl) (by kernel_rfl) rfl (fun _ _ _ h => h) (by rfl) (fun w1 => ?_) ?_
      rotate_left 1
      · go_simp; try with_reducible rfl
      try simp only [Act.put, List.setIfInBounds_toArray, List.set_cons_zero, List.set_cons_succ]
      refine WS.takeP (i := 6) (v := ?_) rfl (by kernel_rfl) (by kernel_rfl) (by kernel_rfl) rfl (fun _ _ _ h => h) (by rfl) (fun w1 => ?_) ?_
      rotate_left 1
      · go_simp; try with_reducible rfl
      try simp only [Act.put, List.setIfInBounds_toArray, List.set_cons_zero, List.set_cons_succ]
      refine WS.takeP (i := 8) (v := _) rfl (by kernel_rfl) (by kernel_rfl) (by kernel_rfl) rfl (fun _ _ _ h => h) (by rfl) (fun w1 => (by go_simp; rfl)) ?_
      refine WS.takeP (i := 7) (v := ?_) rfl (by kernel_rfl) (by kernel_rfl) (by kernel_rfl) rfl (fun _ _ _ h => h) (by rfl) (fun w1 => ?_) ?_
      rotate_left 1
      · go_simp; try with_reducible rfl
      try simp only [Act.put, List.setIfInBounds_toArray, List.set_cons_zero, List.set_cons_succ]
      refine WS.one (i := 9) rfl (by kernel_rfl) (by rfl) (fun K hK => ?_)
      go_simp
      refine hK _ _ (fun q hq hq2 => ?_) ?_
      · simp only [List.mem_cons, List.not_mem_nil, or_false] at hq
        subst hq
        revert hq2; simp
      refine WS.done (by kernel_rfl) ?_
      have hal := hs4.alloc (.cells #[.bool false, .bool false, .int .i64 0, .int .i64 0] 81)
      have y10 : (w3.alloc (.cells #[.bool false, .bool false, .int .i64 0, .int .i64 0] 81)).cell? ⟨ab, 10, none⟩ = some (.slice fad fates.length fm) := cell_at hal.p2.heap
      have hrc := RefCrash W0 _ _ e q w3.heap.size D fates (by omega) _ (fun w h => hfates w h.left.left.left.left.left.left.left) hal.p1
      clear hal
      go_wp2_with fail
      refine hrc.mono ?_
      rintro e' w4 (⟨h, _⟩ | ⟨_, y, rfl, hs5⟩)
      · exact absurd hce h
      have hfin := HB.out w4 p D hp (hsm.le (by omega)) rfl (S.perm hs5.left.p1.left.p1.left)
      clear hs5 hs4 hs3 hs2 hcr hpn hs1 y2 y3 y10 hrc
      go_wp2
      go_ret
      exact ⟨rfl, hfin⟩
set_option maxHeartbeats 4000000 in
theorem DoElse (x : ActA) (hkind : x.kind < 0 ∨ 8 < x.kind) (hx : x.Ok) (hfates : ∀ w, S W0 w F → ReadsW w 1 x.fv x.fates.length (i64s x.fates)) (hm0 : m0 ≤ 12) (hm1 : m1 ≤ 12) (hn : n ≤ 900000) (hst : TwoSt W0 F t m0 m1 n w) :
    Calls Try.prog 15 #[.pointer (some ⟨t, 0, none⟩), .agg x.row.toArray] w fun e' w' => e' = .returned (.bool true) ∧ TwoSt W0 F t m0 m1 (n + 1) w' := by
  obtain ⟨kind, of_, at_, num, bit, turn, a, b, fill, size, fates, fv⟩ := x
  obtain ⟨_, ⟨o1, o2⟩, ⟨at1, at2⟩, ⟨n1, n2⟩, ⟨b1, b2⟩, ⟨t1, t2⟩, ⟨a1, a2⟩, ⟨bb1, bb2⟩, ⟨fi1, fi2⟩, ⟨s1, s2⟩, hfk⟩ := hx
  simp only at hkind o1 o2 at1 at2 n1 n2 b1 b2 t1 t2 a1 a2 bb1 bb2 fi1 fi2 s1 s2 hfk hfates
  first | subst hkind | skip
  obtain ⟨pw, q, d, e, p, D, R, c, hp, hsm, hl12, hcs, hc0, hc3, hcd, hce, hs, back⟩ := hst.pick (ofK_lt of_) hm0 hm1
  have hck := ofK_cases of_
  have hk2 := ofK_lt of_
  generalize ofK of_ = k at *
  have k0 : (0 : Int) ≤ k := by omega
  have k1 : (k : Int) < 2 := by omega
  have HB := Lib.hid back
  have HC := Lib.hid (⟨hcs, hc0, hc3, hcd, hce⟩ : _ ∧ _ ∧ _ ∧ _ ∧ _)
  clear back hst hcs hc0 hc3 hcd hce
  have hs0 := hs.alloc (.cells #[.int .i64 kind, .int .i64 of_, .int .i64 at_, .int .i64 num, .int .i64 bit, .int .u32 turn, .int .u64 a, .int .u64 b, .int .u8 fill, .int .i64 size, fv] 40)
  have z1 : (w.alloc (.cells #[.int .i64 kind, .int .i64 of_, .int .i64 at_, .int .i64 num, .int .i64 bit, .int .u32 turn, .int .u64 a, .int .u64 b, .int .u8 fill, .int .i64 size, fv] 40)).cell? ⟨t, 1 + k, none⟩ = some (.pointer (some ⟨d, 0, none⟩)) := by rw [cell_at hs0.p5.heap]; exact HC.out.2.2.2.1
  have z2 : (w.alloc (.cells #[.int .i64 kind, .int .i64 of_, .int .i64 at_, .int .i64 num, .int .i64 bit, .int .u32 turn, .int .u64 a, .int .u64 b, .int .u8 fill, .int .i64 size, fv] 40)).cell? ⟨t, 4 + k, none⟩ = some (.pointer (some ⟨e, 0, none⟩)) := by rw [cell_at hs0.p5.heap]; exact HC.out.2.2.2.2
  simp only [ActA.row]
  clear hs
  rcases hck with ⟨hk, rfl⟩ | ⟨hk, rfl⟩ | ⟨hk, rfl⟩
  all_goals
    have j0 : (kind == 0) = false := by simp; omega
    have j1 : (kind == 1) = false := by simp; omega
    have j2 : (kind == 2) = false := by simp; omega
    have j3 : (kind == 3) = false := by simp; omega
    have j4 : (kind == 4) = false := by simp; omega
    have j5 : (kind == 5) = false := by simp; omega
    have j6 : (kind == 6) = false := by simp; omega
    have j7 : (kind == 7) = false := by simp; omega
    have j8 : (kind == 8) = false := by simp; omega
    clear hkind
    go_enter Try.func15, Try.ntmps15
    go_wp2
    go_quiet (fail)
    have hs1 := drewN_S nq hs0
    clear hs0 z1 z2 hk
    generalize (w.alloc (.cells #[.int .i64 kind, .int .i64 of_, .int .i64 at_, .int .i64 num, .int .i64 bit, .int .u32 turn, .int .u64 a, .int .u64 b, .int .u8 fill, .int .i64 size, fv] 40)).drewN nq = w1 at hs1 ⊢
    generalize w.heap.size = ab at hs1 ⊢
    have y2 : w1.cell? ⟨ab, 0, none⟩ = some (.int .i64 kind) := cell_at hs1.heap
    have hfin := HB.out _ p D hp (hsm.le (by omega)) rfl (S.perm hs1.left)
    clear hs1
    go_wp2
    go_ret
    exact ⟨rfl, hfin⟩
theorem Law08Do (x : ActA) (hx : x.Ok) (hfates : ∀ w, S W0 w F → ReadsW w 1 x.fv x.fates.length (i64s x.fates)) (hm0 : m0 ≤ 12) (hm1 : m1 ≤ 12) (hn : n ≤ 900000) (hst : TwoSt W0 F t m0 m1 n w) :
    Calls Try.prog 15 #[.pointer (some ⟨t, 0, none⟩), .agg x.row.toArray] w fun e' w' => e' = .returned (.bool true) ∧ TwoSt W0 F t m0 m1 (n + 1) w' := by
  by_cases h : x.kind < 0 ∨ 8 < x.kind
  · exact DoElse W0 w F t m0 m1 n x h hx hfates hm0 hm1 hn hst
  rcases (by omega : x.kind = 0 ∨ x.kind = 1 ∨ x.kind = 2 ∨ x.kind = 3 ∨ x.kind = 4 ∨ x.kind = 5 ∨ x.kind = 6 ∨ x.kind = 7 ∨ x.kind = 8) with h | h | h | h | h | h | h | h | h
  · exact DoRead W0 w F t m0 m1 n x h hx hfates hm0 hm1 hn hst
  · exact DoWrite W0 w F t m0 m1 n x h hx hfates hm0 hm1 hn hst
  · exact DoFlush W0 w F t m0 m1 n x h hx hfates hm0 hm1 hn hst
  · exact DoFail W0 w F t m0 m1 n x h hx hfates hm0 hm1 hn hst
  · exact DoRot W0 w F t m0 m1 n x h hx hfates hm0 hm1 hn hst
  · exact DoFuse W0 w F t m0 m1 n x h hx hfates hm0 hm1 hn hst
  · exact DoCut W0 w F t m0 m1 n x h hx hfates hm0 hm1 hn hst
  · exact DoCrashes W0 w F t m0 m1 n x h hx hfates hm0 hm1 hn hst
  · exact DoCrashRaw W0 w F t m0 m1 n x h hx hfates hm0 hm1 hn hst
end
end Go.Proofs.Ytnkjkkbjplneeaa
