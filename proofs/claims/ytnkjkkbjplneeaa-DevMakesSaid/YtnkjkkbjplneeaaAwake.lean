/-
  The page's example.
-/
import Derived.Test.YtnkjkkbjplneeaaLaw08A
import Derived.Test.YtnkjkkbjplneeaaSameLoose
namespace Go.Proofs.Ytnkjkkbjplneeaa
open Go.RowKit Go.SL
set_option maxRecDepth 100000
set_option linter.unusedSimpArgs false
set_option linter.unusedVariables false
namespace AwakeL
def one : List UInt8 := fillB 1 0
def two : List UInt8 := fillB 2 0
def q1 : PowA := (DevA.new 2).writeP .new 0 one
def D1 : DevA := (DevA.new 2).writeS .new 0 one
def q2 : PowA := D1.writeP q1 0 two
def D2 : DevA := D1.writeS q1 0 two
theorem len1 : one.length = 64 := rfl
theorem len2 : two.length = 64 := rfl
theorem e1 : (DevA.new 2).writeE .new 0 one = 0 := rfl
theorem e2 : D1.writeE q1 0 two = 0 := rfl
theorem ok0 : PowA.new.ok := by unfold PowA.ok; decide
theorem ok1 : q1.ok := by unfold PowA.ok; decide
theorem small0 : (DevA.new 2).Small 1000000 := by
  intro s hs
  simp only [DevA.new, List.mem_replicate] at hs
  rw [hs.2]; decide
theorem d1 : D1.secs = [⟨List.replicate 64 0, [one], false⟩, secNew] := rfl
theorem d2 : D2.secs = [⟨List.replicate 64 0, [one, two], false⟩, secNew] := rfl
theorem small1 : D1.Small 1000000 := by
  intro s hs
  rw [d1] at hs
  simp at hs
  rcases hs with rfl | rfl <;> decide
theorem loose2 : D2.looseL = [(0, 2)] := rfl
theorem crash2 : D2.crashE [1] = 0 := rfl
theorem has2 : (D2.crashD [1]).has 0 = true := rfl
theorem peek2 : (D2.crashD [1]).peekB 0 = one := rfl
end AwakeL
section
variable (W0 w : World) (F : HProp)
open AwakeL in
set_option maxHeartbeats 2000000 in
theorem Law08Awake (hs : S W0 w F) : Calls Try.prog 14 #[] w fun e w' => e = .returned (.bool true) ∧ S W0 w' F := by
  have hp := PowNew W0 w F hs
  have l1 := len1
  have l2 := len2
  go_enter Try.func14, Try.ntmps14
  go_wp2_with fail
  refine hp.mono ?_
  rintro e w1 ⟨pw, rfl, hs1⟩
  clear hp hs
  go_wp2_with fail
  refine (DevNew W0 _ _ pw 2 (by omega) _ hs1).mono ?_
  rintro e w2 ⟨d, rfl, hs2⟩
  clear hs1
  go_wp2_with fail
  refine (FillV W0 _ _ 1 0 hs2).mono ?_
  rintro e w3 ⟨v1, rfl, hs3⟩
  clear hs2
  go_wp2_with fail
  have hs3' : S W0 w3 (F * bytesV v1 5 one * powO pw .new * devO d pw (DevA.new 2)) := hs3.perm
  refine (DevWrite W0 _ (F * bytesV v1 5 one) d pw (DevA.new 2) _ ok0 small0 0 v1 one (fun w h => by unfold bytesV at h; exact h.reads) (by rw [l1]; omega) hs3').mono ?_
  rintro e w4 ⟨rfl, hs4⟩
  clear hs3 hs3'
  rw [e1]
  have hs5 : S W0 w4 (F * powO pw q1 * devO d pw D1) := hs4.p2.left
  clear hs4
  go_wp2_with fail
  refine (FillV W0 _ _ 2 0 hs5).mono ?_
  rintro e w5 ⟨v2, rfl, hs6⟩
  clear hs5
  go_wp2_with fail
  have hs6' : S W0 w5 (F * bytesV v2 5 two * powO pw q1 * devO d pw D1) := hs6.perm
  refine (DevWrite W0 _ (F * bytesV v2 5 two) d pw D1 _ ok1 small1 0 v2 two (fun w h => by unfold bytesV at h; exact h.reads) (by rw [l2]; omega) hs6').mono ?_
  rintro e w6 ⟨rfl, hs7⟩
  clear hs6 hs6'
  rw [e2]
  have hs8 : S W0 w6 (F * powO pw q2 * devO d pw D2) := hs7.p2.left
  clear hs7
  go_wp2_with fail
  refine (DevLoose W0 _ _ d pw D2 (by rw [loose2]; decide) (by rw [d2]; decide) hs8).mono ?_
  rintro e w7 ⟨v3, rfl, hs9⟩
  clear hs8
  rw [loose2] at hs9
  go_wp2_with fail
  refine (PowNew W0 _ _ hs9).mono ?_
  rintro e w8 ⟨pw2, rfl, hs10⟩
  clear hs9
  have hs11 := hs10.alloc (.cells #[.int .i64 1] 3)
  have hfv : ∀ w, S W0 w (F * powO pw q2 * vecB 86 2 v3 [((0 : Int), (2 : Int))].length (flatL [(0, 2)]) * blk w8.heap.size (.cells #[.int .i64 1] 3 (0, 0))) → ReadsW w 1 (.slice (some ⟨w8.heap.size, 0, none⟩) 1 1) [(1 : Int)].length (i64s [1]) := fun w h => by
    refine Reads.wide ⟨rfl, .inr ⟨_, _, _, rfl, by simp, by simp [maxLen], fun j u hj => ?_⟩⟩
    rw [cell_at h.heap]
    simpa [i64s] using hj
  have hcr := DevCrash W0 _ (F * powO pw q2 * vecB 86 2 v3 [((0 : Int), (2 : Int))].length (flatL [(0, 2)]) * blk w8.heap.size (.cells #[.int .i64 1] 3 (0, 0))) d pw pw2 D2 .new [1] (by rw [loose2]; decide) (.slice (some ⟨w8.heap.size, 0, none⟩) 1 1) hfv hs11.perm
  rw [crash2] at hcr
  clear hfv hs11 hs10
  go_wp2_with fail
  refine hcr.mono ?_
  rintro e w9 (⟨h, _⟩ | ⟨_, x, rfl, hs12⟩)
  · exact absurd rfl h
  clear hcr
  go_wp2_with fail
  refine (DevPeek W0 _ _ x pw2 (D2.crashD [1]) 0 hs12).mono ?_
  rintro e w10 ⟨v4, rfl, hs13⟩
  clear hs12
  rw [has2, peek2] at *
  have hs14 : S W0 w10 (F * vecB 86 2 v3 [((0 : Int), (2 : Int))].length (flatL [(0, 2)]) * bytesV v4 5 one) := hs13.p1.left.p1.left.p1.left.p1.left.p2.left
  clear hs13
  have hcv : ∀ (w : World) (G : HProp), S W0 w (G * bytesV v4 5 one) → (convert 44 9 v4).run Try.prog w = .ok (strV one) w := fun w G h => by
    refine run_str_S Try.underlying44 Try.underlying5 Try.underlying9 ?_
    unfold bytesV at h; exact h.reads
  obtain ⟨zz, hzz⟩ : ∃ zz, strV one = .string zz := ⟨_, rfl⟩
  rw [hzz] at hcv
  go_wp2
  refine wp_region_S [(30, fun w => (convert 44 9 v4).run Try.prog w = .ok (.string zz) w)] rfl ?_ ?_
  · simp only [List.mem_cons, List.not_mem_nil, or_false, forall_eq]
    exact hcv _ _ hs14.drew
  refine WS.takeP (i := 0) (v := ?_) rfl (by kernel_rfl) (by kernel_rfl) (by kernel_rfl) rfl (fun _ _ _ h => h) (by rfl) (fun w1 => ?_) ?_
  rotate_left 1
  · go_simp; try with_reducible rfl
  try simp only [Act.put, List.setIfInBounds_toArray, List.set_cons_zero, List.set_cons_succ]
  refine WS.takeP (i := 1) (v := ?_) rfl (by kernel_rfl) (by kernel_rfl) (by kernel_rfl) rfl (fun _ _ _ h => h) (by rfl) (fun w1 => ?_) ?_
  rotate_left 1
  · go_simp; try with_reducible rfl
  try simp only [Act.put, List.setIfInBounds_toArray, List.set_cons_zero, List.set_cons_succ]
  refine WS.takeP (i := 2) (v := ?_) rfl (by kernel_rfl) (by kernel_rfl) (by kernel_rfl) rfl (fun _ _ _ h => h) (by rfl) (fun w1 => ?_) ?_
  rotate_left 1
  · go_simp; try with_reducible rfl
  try simp only [Act.put, List.setIfInBounds_toArray, List.set_cons_zero, List.set_cons_succ]
  refine WS.takeP (i := 3) (v := ?_) rfl (by kernel_rfl) (by kernel_rfl) (by kernel_rfl) rfl (fun _ _ _ h => h) (by rfl) (fun w1 => ?_) ?_
  rotate_left 1
  · go_simp; try with_reducible rfl
  try simp only [Act.put, List.setIfInBounds_toArray, List.set_cons_zero, List.set_cons_succ]
  refine WS.takeP (i := 4) (v := ?_) rfl (by kernel_rfl) (by kernel_rfl) (by kernel_rfl) rfl (fun _ _ _ h => h) (by rfl) (fun w1 => ?_) ?_
  rotate_left 1
  · go_simp; try with_reducible rfl
  try simp only [Act.put, List.setIfInBounds_toArray, List.set_cons_zero, List.set_cons_succ]
  refine WS.takeP (i := 5) (v := ?_) rfl (by kernel_rfl) (by kernel_rfl) (by kernel_rfl) rfl (fun _ _ _ h => h) (by rfl) (fun w1 => ?_) ?_
  rotate_left 1
  · go_simp; try with_reducible rfl
  try simp only [Act.put, List.setIfInBounds_toArray, List.set_cons_zero, List.set_cons_succ]
  refine WS.takeP (i := 6) (v := ?_) rfl (by kernel_rfl) (by kernel_rfl) (by kernel_rfl) rfl (fun _ _ _ h => h) (by rfl) (fun w1 => ?_) ?_
  rotate_left 1
  · go_simp; try with_reducible rfl
  try simp only [Act.put, List.setIfInBounds_toArray, List.set_cons_zero, List.set_cons_succ]
  refine WS.takeP (i := 7) (v := ?_) rfl (by kernel_rfl) (by kernel_rfl) (by kernel_rfl) rfl (fun _ _ _ h => h) (by rfl) (fun w1 => ?_) ?_
  rotate_left 1
  · go_simp; try with_reducible rfl
  try simp only [Act.put, List.setIfInBounds_toArray, List.set_cons_zero, List.set_cons_succ]
  refine WS.takeP (i := 8) (v := ?_) rfl (by kernel_rfl) (by kernel_rfl) (by kernel_rfl) rfl (fun _ _ _ h => h) (by rfl) (fun w1 => ?_) ?_
  rotate_left 1
  · go_simp; try with_reducible rfl
  try simp only [Act.put, List.setIfInBounds_toArray, List.set_cons_zero, List.set_cons_succ]
  refine WS.takeP (i := 9) (v := ?_) rfl (by kernel_rfl) (by kernel_rfl) (by kernel_rfl) rfl (fun _ _ _ h => h) (by rfl) (fun w1 => ?_) ?_
  rotate_left 1
  · go_simp; try with_reducible rfl
  try simp only [Act.put, List.setIfInBounds_toArray, List.set_cons_zero, List.set_cons_succ]
  refine WS.takeP (i := 10) (v := ?_) rfl (by kernel_rfl) (by kernel_rfl) (by kernel_rfl) rfl (fun _ _ _ h => h) (by rfl) (fun w1 => ?_) ?_
  rotate_left 1
  · go_simp; try with_reducible rfl
  try simp only [Act.put, List.setIfInBounds_toArray, List.set_cons_zero, List.set_cons_succ]
  refine WS.takeP (i := 11) (v := ?_) rfl (by kernel_rfl) (by kernel_rfl) (by kernel_rfl) rfl (fun _ _ _ h => h) (by rfl) (fun w1 => ?_) ?_
  rotate_left 1
  · go_simp; try with_reducible rfl
  try simp only [Act.put, List.setIfInBounds_toArray, List.set_cons_zero, List.set_cons_succ]
  refine WS.takeP (i := 12) (v := ?_) rfl (by kernel_rfl) (by kernel_rfl) (by kernel_rfl) rfl (fun _ _ _ h => h) (by rfl) (fun w1 => ?_) ?_
  rotate_left 1
  · go_simp; try with_reducible rfl
  try simp only [Act.put, List.setIfInBounds_toArray, List.set_cons_zero, List.set_cons_succ]
  refine WS.one (i := 13) rfl (by kernel_rfl) (by rfl) (fun K hK => ?_)
  go_simp
  have hs15 := (hs14.alloc (.cells #[.int .i64 0, .int .i64 2] 86)).drew
  refine hK _ _ (fun q hq _ => ?_) ?_
  · simp only [List.mem_cons, List.not_mem_nil, or_false] at hq
    subst hq
    exact hcv _ _ hs15.p1
  have hs16 := hs15.p1
  have hrd : Reads (w10.alloc (.cells #[.int .i64 0, .int .i64 2] 86)).drew 2 (.slice (some ⟨w10.heap.size, 0, none⟩) 1 1) [((0 : Int), (2 : Int))].length (flatL [(0, 2)]) := by
    refine ⟨rfl, .inr ⟨_, _, _, rfl, by simp, by simp [maxLen], fun j u hj => ?_⟩⟩
    rw [cell_at hs15.heap]
    simpa [flatL, loV] using hj
  have hsl := SameLoose _ v3 (.slice (some ⟨w10.heap.size, 0, none⟩) 1 1) [(0, 2)] [(0, 2)] hs15.p2.reads hrd
  clear hs14 hrd
  generalize (w10.alloc (.cells #[.int .i64 0, .int .i64 2] 86)).drew = w11 at *
  generalize w10.heap.size = lb at *
  clear hs15
  refine WS.one (i := 14) rfl (by kernel_rfl) (by rfl) (fun K hK => ?_)
  go_simp
  refine hsl.mono ?_
  rintro e w12 ⟨rfl, n, rfl⟩
  have hs17 := drewN_S n hs16
  clear hsl hs16
  generalize w11.drewN n = w12 at *
  refine hK _ _ (fun q hq _ => ?_) ?_
  · simp only [List.mem_cons, List.not_mem_nil, or_false] at hq
    subst hq
    exact hcv _ _ hs17
  rw [decide_eq_true (rfl : [((0 : Int), (2 : Int))] = [(0, 2)])]
  refine WS.takeP (i := 15) (v := ?_) rfl (by kernel_rfl) (by kernel_rfl) (by kernel_rfl) rfl (fun _ _ _ h => h) (by rfl) (fun w1 => ?_) ?_
  rotate_left 1
  · go_simp; try with_reducible rfl
  try simp only [Act.put, List.setIfInBounds_toArray, List.set_cons_zero, List.set_cons_succ]
  refine WS.takeP (i := 16) (v := ?_) rfl (by kernel_rfl) (by kernel_rfl) (by kernel_rfl) rfl (fun _ _ _ h => h) (by rfl) (fun w1 => ?_) ?_
  rotate_left 1
  · go_simp; try with_reducible rfl
  try simp only [Act.put, List.setIfInBounds_toArray, List.set_cons_zero, List.set_cons_succ]
  refine WS.takeP (i := 17) (v := ?_) rfl (by kernel_rfl) (by kernel_rfl) (by kernel_rfl) rfl (fun _ _ _ h => h) (by rfl) (fun w1 => ?_) ?_
  rotate_left 1
  · go_simp; try with_reducible rfl
  try simp only [Act.put, List.setIfInBounds_toArray, List.set_cons_zero, List.set_cons_succ]
  refine WS.takeP (i := 18) (v := ?_) rfl (by kernel_rfl) (by kernel_rfl) (by kernel_rfl) rfl (fun _ _ _ h => h) (by rfl) (fun w1 => ?_) ?_
  rotate_left 1
  · go_simp; try with_reducible rfl
  try simp only [Act.put, List.setIfInBounds_toArray, List.set_cons_zero, List.set_cons_succ]
  refine WS.takeP (i := 19) (v := ?_) rfl (by kernel_rfl) (by kernel_rfl) (by kernel_rfl) rfl (fun _ _ _ h => h) (by rfl) (fun w1 => ?_) ?_
  rotate_left 1
  · go_simp; try with_reducible rfl
  try simp only [Act.put, List.setIfInBounds_toArray, List.set_cons_zero, List.set_cons_succ]
  refine WS.takeP (i := 20) (v := ?_) rfl (by kernel_rfl) (by kernel_rfl) (by kernel_rfl) rfl (fun _ _ _ h => h) (by rfl) (fun w1 => ?_) ?_
  rotate_left 1
  · go_simp; try with_reducible rfl
  try simp only [Act.put, List.setIfInBounds_toArray, List.set_cons_zero, List.set_cons_succ]
  refine WS.takeP (i := 21) (v := ?_) rfl (by kernel_rfl) (by kernel_rfl) (by kernel_rfl) rfl (fun _ _ _ h => h) (by rfl) (fun w1 => ?_) ?_
  rotate_left 1
  · go_simp; try with_reducible rfl
  try simp only [Act.put, List.setIfInBounds_toArray, List.set_cons_zero, List.set_cons_succ]
  refine WS.takeP (i := 22) (v := ?_) rfl (by kernel_rfl) (by kernel_rfl) (by kernel_rfl) rfl (fun _ _ _ h => h) (by rfl) (fun w1 => ?_) ?_
  rotate_left 1
  · go_simp; try with_reducible rfl
  try simp only [Act.put, List.setIfInBounds_toArray, List.set_cons_zero, List.set_cons_succ]
  refine WS.takeP (i := 23) (v := ?_) rfl (by kernel_rfl) (by kernel_rfl) (by kernel_rfl) rfl (fun _ _ _ h => h) (by rfl) (fun w1 => ?_) ?_
  rotate_left 1
  · go_simp; try with_reducible rfl
  try simp only [Act.put, List.setIfInBounds_toArray, List.set_cons_zero, List.set_cons_succ]
  refine WS.takeP (i := 24) (v := ?_) rfl (by kernel_rfl) (by kernel_rfl) (by kernel_rfl) rfl (fun _ _ _ h => h) (by rfl) (fun w1 => ?_) ?_
  rotate_left 1
  · go_simp; try with_reducible rfl
  try simp only [Act.put, List.setIfInBounds_toArray, List.set_cons_zero, List.set_cons_succ]
  refine WS.takeR (i := 25) (v := ?_) (30) _ (by first | exact .head _ | exact .tail _ (.head _) | exact .tail _ (.tail _ (.head _))) rfl (by kernel_rfl) (by kernel_rfl) (by kernel_rfl) rfl (by kernel_rfl) rfl (fun _ _ _ h => h) (by rfl) (fun w1 hR => ?_) ?_
  rotate_left 1
  · (have conv := hR); go_simp; try with_reducible rfl
  try simp only [Act.put, List.setIfInBounds_toArray, List.set_cons_zero, List.set_cons_succ]
  refine WS.one (i := 26) rfl (by kernel_rfl) (by rfl) (fun K hK => ?_)
  go_simp
  refine (FillV W0 _ _ 1 0 hs17).mono ?_
  rintro e w13 ⟨v5, rfl, hs18⟩
  refine hK _ _ (fun q hq _ => ?_) ?_
  · simp only [List.mem_cons, List.not_mem_nil, or_false] at hq
    subst hq
    exact hcv _ _ hs18.p1
  have hcv5 : (convert 44 9 v5).run Try.prog w13 = .ok (strV one) w13 := by
    refine run_str_S Try.underlying44 Try.underlying5 Try.underlying9 ?_
    unfold bytesV at hs18; exact hs18.reads
  rw [hzz] at hcv5
  refine WS.one (i := 27) rfl (by kernel_rfl) (by rfl) (fun K hK => ?_)
  go_simp
  refine hK _ _ (fun q hq _ => ?_) ?_
  · simp only [List.mem_cons, List.not_mem_nil, or_false] at hq
    subst hq
    exact hcv _ _ hs18.p1
  refine WS.takeP (i := 28) (v := ?_) rfl (by kernel_rfl) (by kernel_rfl) (by kernel_rfl) rfl (fun _ _ _ h => h) (by rfl) (fun w1 => ?_) ?_
  rotate_left 1
  · go_simp; try with_reducible rfl
  try simp only [Act.put, List.setIfInBounds_toArray, List.set_cons_zero, List.set_cons_succ]
  refine WS.takeP (i := 29) (v := ?_) rfl (by kernel_rfl) (by kernel_rfl) (by kernel_rfl) rfl (fun _ _ _ h => h) (by rfl) (fun w1 => ?_) ?_
  rotate_left 1
  · go_simp; try with_reducible rfl
  try simp only [Act.put, List.setIfInBounds_toArray, List.set_cons_zero, List.set_cons_succ]
  refine WS.one (i := 30) rfl (by kernel_rfl) (by rfl) (fun K hK => ?_)
  go_simp
  refine hK _ _ (fun q hq hq2 => ?_) ?_
  · simp only [List.mem_cons, List.not_mem_nil, or_false] at hq
    subst hq
    revert hq2
    simp
  refine WS.done (by kernel_rfl) ?_
  have hs19 := hs18.left.left.left.left
  clear hs18 hcv hcv5 hs17
  go_wp2
  go_ret
  exact ⟨rfl, hs19⟩
end
end Go.Proofs.Ytnkjkkbjplneeaa
