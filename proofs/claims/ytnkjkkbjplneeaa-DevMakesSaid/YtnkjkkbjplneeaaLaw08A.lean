/-
  Two devices on one power, and the document's.
-/
import Derived.Test.YtnkjkkbjplneeaaRefNew
import Derived.Test.YtnkjkkbjplneeaaDevCrash
namespace Go.Proofs.Ytnkjkkbjplneeaa
open Go.RowKit Go.SL
set_option maxRecDepth 100000
set_option linter.unusedSimpArgs false
set_option linter.unusedVariables false
def p0 : PowA := ⟨false, -1, 0⟩
structure TwoG where
  t : Nat
  pw : Nat
  d0 : Nat
  d1 : Nat
  q : Nat
  e0 : Nat
  e1 : Nat
def twoB (g : TwoG) : HProp := blk g.t (.cells #[.pointer (some ⟨g.pw, 0, none⟩), .pointer (some ⟨g.d0, 0, none⟩), .pointer (some ⟨g.d1, 0, none⟩), .pointer (some ⟨g.q, 0, none⟩), .pointer (some ⟨g.e0, 0, none⟩), .pointer (some ⟨g.e1, 0, none⟩)] 34 (0, 0))
/-- The machine's side, and the document's, of the same thoughts. -/
def sideD (g : TwoG) (p : PowA) (D0 D1 : DevA) : HProp := powO g.pw p * devO g.d0 g.pw D0 * devO g.d1 g.pw D1
def sideR (g : TwoG) (p : PowA) (D0 D1 : DevA) : HProp := rpowO g.q p * rdevO g.e0 g.q D0 * rdevO g.e1 g.q D1
section
variable (W0 w : World) (F : HProp)
set_option maxHeartbeats 1000000 in
theorem Law08Begin (a b : Nat) (ha : a ≤ 4096) (hb : b ≤ 4096) (hs : S W0 w F) :
    Calls Try.prog 7 #[.int .i64 (a : Int), .int .i64 (b : Int)] w fun e w' => ∃ g : TwoG, e = .returned (.tuple #[.pointer (some ⟨g.t, 0, none⟩), .bool true]) ∧
      S W0 w' (F * sideD g p0 (.new a) (.new b) * sideR g p0 (.new a) (.new b) * twoB g) := by
  have hp := PowNew W0 w F hs
  clear hs
  go_enter Try.func7, Try.ntmps7
  go_wp2_with fail
  refine hp.mono ?_
  rintro e w1 ⟨pw, rfl, hs⟩
  have hs1 := hs.alloc (.cells #[.bool false, .bool false, .int .i64 0, .int .i64 0] 81)
  have hs2 := hs1.alloc (.cells #[.pointer (some ⟨pw, 0, none⟩), .pointer none, .pointer none, .pointer (some ⟨w1.heap.size, 0, none⟩), .pointer none, .pointer none] 34)
  have hsz : (w1.alloc (.cells #[.bool false, .bool false, .int .i64 0, .int .i64 0] 81)).heap.size = w1.heap.size + 1 := by simp
  rw [hsz] at hs2
  go_wp2_with fail
  generalize w1.heap.size + 1 = t at hs2 ⊢
  generalize w1.heap.size = q at hs2 ⊢
  refine (DevNew W0 _ _ pw a ha _ hs2.p2).mono ?_
  rintro e w2 ⟨d0, rfl, hs3⟩
  clear hs hs1 hs2 hsz
  have c0 : w2.cell? ⟨t, 0, none⟩ = some (.pointer (some ⟨pw, 0, none⟩)) := cell_at hs3.p2.heap
  go_wp2_with fail
  refine (DevNew W0 _ _ pw b hb _ hs3.p1).mono ?_
  rintro e w3 ⟨d1, rfl, hs4⟩
  clear c0 hs3
  have f0 : ∀ i, w3.frozen? ⟨t, i, none⟩ = false := fun i => free_at hs4.p3.heap
  have k1 : w3.cell? ⟨t, 1, none⟩ = some (.pointer none) := cell_at hs4.p3.heap
  have k2 : w3.cell? ⟨t, 2, none⟩ = some (.pointer none) := cell_at hs4.p3.heap
  have hs5 := ((hs4.p3).set (i := 1) (v := .pointer (some ⟨d0, 0, none⟩))).set (i := 2) (v := .pointer (some ⟨d1, 0, none⟩))
  have f1 := f0 1
  have f2 := f0 2
  clear hs4 f0
  go_wp2
  generalize ((w3.setCell ⟨t, 1, none⟩ (.pointer (some ⟨d0, 0, none⟩))).setCell ⟨t, 2, none⟩ (.pointer (some ⟨d1, 0, none⟩))) = w4 at hs5 ⊢
  clear k1 k2 f1 f2
  have k3 : w4.cell? ⟨t, 3, none⟩ = some (.pointer (some ⟨q, 0, none⟩)) := cell_at hs5.heap
  refine wp_region_S [(10, fun w => w.cell? ⟨t, 3, none⟩ = some (.pointer (some ⟨q, 0, none⟩)))] rfl ?_ ?_
  · simp only [List.mem_cons, List.not_mem_nil, or_false, forall_eq]
    exact k3
  refine WS.takeP (i := 0) (v := ?_) rfl (by kernel_rfl) (by kernel_rfl) (by kernel_rfl) rfl (fun _ _ _ h => h) (by rfl) (fun w1 => ?_) ?_
  rotate_left 1
  · go_simp; try with_reducible rfl
  try simp only [Act.put, List.setIfInBounds_toArray, List.set_cons_zero, List.set_cons_succ]
  refine WS.takeP (i := 1) (v := ?_) rfl (by kernel_rfl) (by kernel_rfl) (by kernel_rfl) rfl (fun _ _ _ h => h) (by rfl) (fun w1 => ?_) ?_
  rotate_left 1
  · go_simp; try with_reducible rfl
  try simp only [Act.put, List.setIfInBounds_toArray, List.set_cons_zero, List.set_cons_succ]
  refine WS.takeP (i := 2) (v := ?_) rfl (by kernel_rfl) (by kernel_rfl) (by kernel_rfl) rfl (fun _ _ _ h => h) (by rfl) (fun w1 => ?_) ?_
  rotate_left 1
  · go_simp; try with_reducible rfl
  try simp only [Act.put, List.setIfInBounds_toArray, List.set_cons_zero, List.set_cons_succ]
  refine WS.takeP (i := 3) (v := ?_) rfl (by kernel_rfl) (by kernel_rfl) (by kernel_rfl) rfl (fun _ _ _ h => h) (by rfl) (fun w1 => ?_) ?_
  rotate_left 1
  · go_simp; try with_reducible rfl
  try simp only [Act.put, List.setIfInBounds_toArray, List.set_cons_zero, List.set_cons_succ]
  refine WS.takeP (i := 4) (v := ?_) rfl (by kernel_rfl) (by kernel_rfl) (by kernel_rfl) rfl (fun _ _ _ h => h) (by rfl) (fun w1 => ?_) ?_
  rotate_left 1
  · go_simp; try with_reducible rfl
  try simp only [Act.put, List.setIfInBounds_toArray, List.set_cons_zero, List.set_cons_succ]
  refine WS.takeR (i := 5) (v := ?_) (10) _ (by first | exact .head _ | exact .tail _ (.head _) | exact .tail _ (.tail _ (.head _))) rfl (by kernel_rfl) (by kernel_rfl) (by kernel_rfl) rfl (by kernel_rfl) rfl (fun _ _ _ h => h) (by rfl) (fun w1 hR => ?_) ?_
  rotate_left 1
  · (skip); go_simp; try with_reducible rfl
  try simp only [Act.put, List.setIfInBounds_toArray, List.set_cons_zero, List.set_cons_succ]
  refine WS.takeP (i := 7) (v := ?_) rfl (by kernel_rfl) (by kernel_rfl) (by kernel_rfl) rfl (fun _ _ _ h => h) (by rfl) (fun w1 => ?_) ?_
  rotate_left 1
  · go_simp; try with_reducible rfl
  try simp only [Act.put, List.setIfInBounds_toArray, List.set_cons_zero, List.set_cons_succ]
  refine WS.takeP (i := 8) (v := ?_) rfl (by kernel_rfl) (by kernel_rfl) (by kernel_rfl) rfl (fun _ _ _ h => h) (by rfl) (fun w1 => ?_) ?_
  rotate_left 1
  · go_simp; try with_reducible rfl
  try simp only [Act.put, List.setIfInBounds_toArray, List.set_cons_zero, List.set_cons_succ]
  refine WS.one (i := 6) rfl (by kernel_rfl) (by rfl) (fun K hK => ?_)
  go_simp
  refine (RefNew W0 _ _ q a ha hs5.drew).mono ?_
  rintro e w5 ⟨e0, rfl, hs6⟩
  refine hK _ _ (fun q hq _ => ?_) ?_
  · simp only [List.mem_cons, List.not_mem_nil, or_false] at hq
    subst hq
    exact cell_at hs6.p1.heap
  refine WS.takeP (i := 9) (v := ?_) rfl (by kernel_rfl) (by kernel_rfl) (by kernel_rfl) rfl (fun _ _ _ h => h) (by rfl) (fun w1 => ?_) ?_
  rotate_left 1
  · go_simp; try with_reducible rfl
  try simp only [Act.put, List.setIfInBounds_toArray, List.set_cons_zero, List.set_cons_succ]
  have c4 : w5.cell? ⟨t, 4, none⟩ = some (.pointer none) := cell_at hs6.p1.heap
  have f4 : w5.frozen? ⟨t, 4, none⟩ = false := free_at hs6.p1.heap
  refine WS.one (i := 10) rfl (by kernel_rfl) (by rfl) (fun K hK => ?_)
  go_simp
  refine hK _ _ (fun q hq hq2 => ?_) ?_
  · simp only [List.mem_cons, List.not_mem_nil, or_false] at hq
    subst hq
    revert hq2
    simp
  refine WS.done (by kernel_rfl) ?_
  have hs7 := hs6.p1.set (i := 4) (v := .pointer (some ⟨e0, 0, none⟩))
  clear c4 f4 k3 hs5 hs6
  go_wp2
  generalize w5.setCell ⟨t, 4, none⟩ (.pointer (some ⟨e0, 0, none⟩)) = w6 at hs7 ⊢
  have k3 : w6.cell? ⟨t, 3, none⟩ = some (.pointer (some ⟨q, 0, none⟩)) := cell_at hs7.heap
  refine wp_region_S [(10, fun w => w.cell? ⟨t, 3, none⟩ = some (.pointer (some ⟨q, 0, none⟩)))] rfl ?_ ?_
  · simp only [List.mem_cons, List.not_mem_nil, or_false, forall_eq]
    exact k3
  refine WS.takeP (i := 0) (v := ?_) rfl (by kernel_rfl) (by kernel_rfl) (by kernel_rfl) rfl (fun _ _ _ h => h) (by rfl) (fun w1 => ?_) ?_
  rotate_left 1
  · go_simp; try with_reducible rfl
  try simp only [Act.put, List.setIfInBounds_toArray, List.set_cons_zero, List.set_cons_succ]
  refine WS.takeP (i := 1) (v := ?_) rfl (by kernel_rfl) (by kernel_rfl) (by kernel_rfl) rfl (fun _ _ _ h => h) (by rfl) (fun w1 => ?_) ?_
  rotate_left 1
  · go_simp; try with_reducible rfl
  try simp only [Act.put, List.setIfInBounds_toArray, List.set_cons_zero, List.set_cons_succ]
  refine WS.takeP (i := 2) (v := ?_) rfl (by kernel_rfl) (by kernel_rfl) (by kernel_rfl) rfl (fun _ _ _ h => h) (by rfl) (fun w1 => ?_) ?_
  rotate_left 1
  · go_simp; try with_reducible rfl
  try simp only [Act.put, List.setIfInBounds_toArray, List.set_cons_zero, List.set_cons_succ]
  refine WS.takeP (i := 3) (v := ?_) rfl (by kernel_rfl) (by kernel_rfl) (by kernel_rfl) rfl (fun _ _ _ h => h) (by rfl) (fun w1 => ?_) ?_
  rotate_left 1
  · go_simp; try with_reducible rfl
  try simp only [Act.put, List.setIfInBounds_toArray, List.set_cons_zero, List.set_cons_succ]
  refine WS.takeP (i := 4) (v := ?_) rfl (by kernel_rfl) (by kernel_rfl) (by kernel_rfl) rfl (fun _ _ _ h => h) (by rfl) (fun w1 => ?_) ?_
  rotate_left 1
  · go_simp; try with_reducible rfl
  try simp only [Act.put, List.setIfInBounds_toArray, List.set_cons_zero, List.set_cons_succ]
  refine WS.takeR (i := 5) (v := ?_) (10) _ (by first | exact .head _ | exact .tail _ (.head _) | exact .tail _ (.tail _ (.head _))) rfl (by kernel_rfl) (by kernel_rfl) (by kernel_rfl) rfl (by kernel_rfl) rfl (fun _ _ _ h => h) (by rfl) (fun w1 hR => ?_) ?_
  rotate_left 1
  · (skip); go_simp; try with_reducible rfl
  try simp only [Act.put, List.setIfInBounds_toArray, List.set_cons_zero, List.set_cons_succ]
  refine WS.takeP (i := 7) (v := ?_) rfl (by kernel_rfl) (by kernel_rfl) (by kernel_rfl) rfl (fun _ _ _ h => h) (by rfl) (fun w1 => ?_) ?_
  rotate_left 1
  · go_simp; try with_reducible rfl
  try simp only [Act.put, List.setIfInBounds_toArray, List.set_cons_zero, List.set_cons_succ]
  refine WS.takeP (i := 8) (v := ?_) rfl (by kernel_rfl) (by kernel_rfl) (by kernel_rfl) rfl (fun _ _ _ h => h) (by rfl) (fun w1 => ?_) ?_
  rotate_left 1
  · go_simp; try with_reducible rfl
  try simp only [Act.put, List.setIfInBounds_toArray, List.set_cons_zero, List.set_cons_succ]
  refine WS.one (i := 6) rfl (by kernel_rfl) (by rfl) (fun K hK => ?_)
  go_simp
  refine (RefNew W0 _ _ q b hb hs7.drew).mono ?_
  rintro e w5 ⟨e1, rfl, hs8⟩
  refine hK _ _ (fun q hq _ => ?_) ?_
  · simp only [List.mem_cons, List.not_mem_nil, or_false] at hq
    subst hq
    exact cell_at hs8.p1.heap
  refine WS.takeP (i := 9) (v := ?_) rfl (by kernel_rfl) (by kernel_rfl) (by kernel_rfl) rfl (fun _ _ _ h => h) (by rfl) (fun w1 => ?_) ?_
  rotate_left 1
  · go_simp; try with_reducible rfl
  try simp only [Act.put, List.setIfInBounds_toArray, List.set_cons_zero, List.set_cons_succ]
  have c4 : w5.cell? ⟨t, 5, none⟩ = some (.pointer none) := cell_at hs8.p1.heap
  have f4 : w5.frozen? ⟨t, 5, none⟩ = false := free_at hs8.p1.heap
  refine WS.one (i := 10) rfl (by kernel_rfl) (by rfl) (fun K hK => ?_)
  go_simp
  refine hK _ _ (fun q hq hq2 => ?_) ?_
  · simp only [List.mem_cons, List.not_mem_nil, or_false] at hq
    subst hq
    revert hq2
    simp
  refine WS.done (by kernel_rfl) ?_
  have hs9 := hs8.p1.set (i := 5) (v := .pointer (some ⟨e1, 0, none⟩))
  clear c4 f4 k3 hs7 hs8
  have c0 : (w5.setCell ⟨t, 5, none⟩ (.pointer (some ⟨e1, 0, none⟩))).cell? ⟨t, 0, none⟩ = some (.pointer (some ⟨pw, 0, none⟩)) := cell_at hs9.heap
  generalize w5.setCell ⟨t, 5, none⟩ (.pointer (some ⟨e1, 0, none⟩)) = w7 at hs9 c0 ⊢
  go_wp2
  go_ret2
  refine ⟨⟨t, pw, d0, d1, q, e0, e1⟩, rfl, ?_⟩
  have h := rpowO.shut (p := p0) (left := 0) hs9.p6 (by decide)
  exact S.to h (by unfold sideD sideR twoB; dsimp only; ac_rfl)
end
end Go.Proofs.Ytnkjkkbjplneeaa
