/-
  slices.SortFunc on at most twelve loose sectors: an insertion sort by the sector's number.
-/
import Derived.Sort.LotA
import Derived.Sort.WalkA
import Derived.Test.YtnkjkkbjplneeaaDev3
namespace Go.Proofs.Ytnkjkkbjplneeaa
open Go.RowKit Go.SL
set_option maxRecDepth 100000
set_option linter.unusedSimpArgs false
set_option linter.unusedVariables false
def loV (e : Int × Int) : List Value := [.int .i64 e.1, .int .i64 e.2]
def loLt (x y : Int × Int) : Bool := decide (x.1 < y.1)
def flatL (l : List (Int × Int)) : List Value := l.flatMap loV
theorem flatL_length (l : List (Int × Int)) : (flatL l).length = 2 * l.length := by
  induction l with
  | nil => rfl
  | cons e l ih => simp only [flatL, List.flatMap_cons, List.length_append] at *; rw [ih]; simp [loV]; omega
theorem flatL_get : ∀ (l : List (Int × Int)) (i : Nat) (h : i < l.length), (flatL l)[i * 2]? = some (.int .i64 l[i].1) ∧ (flatL l)[i * 2 + 1]? = some (.int .i64 l[i].2)
  | e :: l, 0, _ => by simp [flatL, loV]
  | e :: l, i + 1, h => by
    have := flatL_get l i (by simpa using h)
    simp only [flatL, List.flatMap_cons, loV] at *
    rw [show (i + 1) * 2 = i * 2 + 1 + 1 by omega]
    simpa using this
theorem flatL_set : ∀ (l : List (Int × Int)) (i : Nat) (x : Int × Int), i < l.length → ((flatL l).set (i * 2) (.int .i64 x.1)).set (i * 2 + 1) (.int .i64 x.2) = flatL (l.set i x)
  | e :: l, 0, x, _ => by simp [flatL, loV]
  | e :: l, i + 1, x, h => by
    have := flatL_set l i x (by simpa using h)
    simp only [flatL, List.flatMap_cons, loV, List.set_cons_succ] at *
    rw [show (i + 1) * 2 = i * 2 + 1 + 1 by omega]
    simpa using this
theorem swp_toList (d : Array (Int × Int)) (i j : Nat) : (Sort.swp d i j).toList = (d.toList.set i d[j]!).set j d[i]! := by simp [Sort.swp]
def LoSmall (d : Array (Int × Int)) : Prop := ∀ i, i < d.size → 0 ≤ d[i]!.1 ∧ d[i]!.1 ≤ 1000000
theorem LoSmall.swp {d : Array (Int × Int)} (h : LoSmall d) {i j : Nat} (hi : i < d.size) (hj : j < d.size) : LoSmall (Sort.swp d i j) := by
  intro k hk
  rw [Sort.size_swp] at hk
  rw [Sort.swp_get d hi hj]
  split
  · exact h i hi
  · split
    · exact h j hj
    · exact h k hk
def loObj (d : Array (Int × Int)) (spare : List Value) : Obj := .cells (flatL d.toList ++ spare).toArray 86 (0, 0)
theorem drewN_S {W0 w : World} {A : HProp} (n : Nat) (h : S W0 w A) : S W0 (w.drewN n) A := ⟨⟨h.1.os, h.1.tape, h.1.output, h.1.size, h.1.block⟩, h.2⟩
section
variable (W0 w : World) (F : HProp)
theorem LooseLess (x y : Int × Int) (hx : 0 ≤ x.1 ∧ x.1 ≤ 1000000) (hy : 0 ≤ y.1 ∧ y.1 ≤ 1000000) (hs : S W0 w F) :
    Calls Try.prog 48 #[.agg #[.int .i64 x.1, .int .i64 x.2], .agg #[.int .i64 y.1, .int .i64 y.2]] w fun e w' => e = .returned (.int .i64 (x.1 - y.1)) ∧ S W0 w' F := by
  obtain ⟨hx1, hx2⟩ := hx
  obtain ⟨hy1, hy2⟩ := hy
  have hd : IntKind.i64.wrap (x.1 - y.1) = x.1 - y.1 := IntWalk.i64_in _ (by omega)
  have k1 := hs.alloc (.cells #[.int .i64 x.1, .int .i64 x.2] 86)
  have k2 := k1.alloc (.cells #[.int .i64 y.1, .int .i64 y.2] 86)
  have k3 := k2.left.left
  go_enter Try.func48, Try.ntmps48
  go_wp2
  go_ret
  exact ⟨rfl, k3⟩
theorem lo_cells {W0 w : World} {F : HProp} {g : Nat} {d : Array (Int × Int)} {spare : List Value} (h : S W0 w (F * blk g (loObj d spare))) {i : Nat} (hi : i < d.size) :
    w.cell? ⟨g, i * 2, none⟩ = some (.int .i64 d[i]!.1) ∧ w.cell? ⟨g, i * 2 + 1, none⟩ = some (.int .i64 d[i]!.2) ∧ w.frozen? ⟨g, i * 2, none⟩ = false ∧ w.frozen? ⟨g, i * 2 + 1, none⟩ = false := by
  have hh : w.heap[g]? = some (.cells (flatL d.toList ++ spare).toArray 86 (0, 0)) := h.heap
  obtain ⟨g1, g2⟩ := flatL_get d.toList i (by simpa using hi)
  have hl1 : (flatL d.toList).length = 2 * d.size := by rw [flatL_length]; simp
  have e1 : d.toList[i]'(by simpa using hi) = d[i]! := by simp [hi]
  rw [e1] at g1 g2
  refine ⟨?_, ?_, free_at hh, free_at hh⟩
  · rw [cell_at hh]; simp [List.getElem?_append_left (show i * 2 < (flatL d.toList).length by omega), g1]
  · rw [cell_at hh]; simp [List.getElem?_append_left (show i * 2 + 1 < (flatL d.toList).length by omega), g2]
theorem lo_set {W0 w : World} {F : HProp} {g : Nat} {d : Array (Int × Int)} {spare : List Value} (h : S W0 w (F * blk g (loObj d spare))) {i : Nat} (hi : i < d.size) (x : Int × Int) :
    S W0 ((w.setCell ⟨g, i * 2, none⟩ (.int .i64 x.1)).setCell ⟨g, i * 2 + 1, none⟩ (.int .i64 x.2)) (F * blk g (loObj (d.setIfInBounds i x) spare)) := by
  have h' : S W0 w (F * blk g (.cells (flatL d.toList ++ spare).toArray 86 (0, 0))) := h
  have hl1 : (flatL d.toList).length = 2 * d.size := by rw [flatL_length]; simp
  have h2 := (h'.set (i := i * 2) (v := .int .i64 x.1)).set (i := i * 2 + 1) (v := .int .i64 x.2)
  have e : ((flatL d.toList ++ spare).toArray.setIfInBounds (i * 2) (.int .i64 x.1)).setIfInBounds (i * 2 + 1) (.int .i64 x.2) = (flatL (d.setIfInBounds i x).toList ++ spare).toArray := by
    rw [List.setIfInBounds_toArray, List.setIfInBounds_toArray, List.set_append_left _ _ (by omega), List.set_append_left _ _ (by rw [List.length_set]; omega), flatL_set _ _ _ (by simpa using hi)]
    simp
  rw [e] at h2
  exact h2
theorem LooseInsertion (g m : Nat) (spare : List Value) (d : Array (Int × Int)) (hd : d.size ≤ 100000) (hsm : LoSmall d) (hs : S W0 w (F * blk g (loObj d spare))) :
    Calls Try.prog 57 #[.slice (some ⟨g, 0, none⟩) d.size m, .int .i64 0, .int .i64 d.size, .func (.func 48) #[] #[]] w fun e w' =>
      e = .returned (.tuple #[]) ∧ S W0 w' (F * blk g (loObj (Sort.insertionSort loLt d 0 d.size) spare)) := by
  go_enter Try.func57, Try.ntmps57
  go_wp2
  go_loopw [8] (fun vi wr => ∃ (i : Nat) (dk : Array (Int × Int)), vi = .int .i64 i ∧ 0 < i ∧ i ≤ d.size + 1 ∧ dk.size = d.size ∧ LoSmall dk ∧ S W0 wr (F * blk g (loObj dk spare)) ∧
      Sort.insOuter loLt 0 d.size i dk = Sort.insOuter loLt 0 d.size 1 d) (fun vi _ => d.size + 1 - (intOf vi).toNat)
  case atStart => exact ⟨1, d, by go_num, by omega, by omega, rfl, hsm, hs, rfl⟩
  case round =>
    obtain ⟨i, dk, rfl, hai, hib, hsk, hsmk, hk, hO⟩ := hrel
    have HO := Lib.hid hO
    clear hO hs hsm
    go_wp2
    · have hlt : i < d.size := by assumption
      go_loopw [9] (fun vj wr2 => ∃ (j : Nat) (dj : Array (Int × Int)), vj = .int .i64 j ∧ j ≤ i ∧ dj.size = d.size ∧ LoSmall dj ∧ S W0 wr2 (F * blk g (loObj dj spare)) ∧
          Sort.insInner loLt 0 j dj = Sort.insInner loLt 0 i dk) (fun vj _ => (intOf vj).toNat)
      case atStart => exact ⟨i, dk, rfl, by omega, hsk, hsmk, hk, rfl⟩
      case round =>
        obtain ⟨j, dj, rfl, hji, hsj, hsmj, hkj, hI⟩ := hrel
        have HI := Lib.hid hI
        clear hI
        have hjb : j < dj.size := by omega
        have out : (j ≤ 0 ∨ loLt dj[j]! dj[j - 1]! = false) → Sort.insOuter loLt 0 d.size (i + 1) dj = Sort.insOuter loLt 0 d.size 1 d := fun h => by
          rw [← HO.out, insOuter_go _ _ _ _ _ hlt, ← HI.out, insInner_stop _ _ _ _ h]
        have OUT := Lib.hid out
        clear out
        by_cases hja : 0 < j
        · have hsm1 := hsmj j hjb
          have hsm2 := hsmj (j - 1) (by omega)
          obtain ⟨c1, c2, f1, f2⟩ := lo_cells hkj hjb
          obtain ⟨c3, c4, f3, f4⟩ := lo_cells hkj (show j - 1 < dj.size by omega)
          have hless := LooseLess W0 wr.drew (F * blk g (loObj dj spare)) dj[j]! dj[j - 1]! hsm1 hsm2 hkj.drew
          generalize hx : dj[j]! = x at *
          generalize hy : dj[j - 1]! = y at *
          have HX := Lib.hid hx
          have HY := Lib.hid hy
          have HG := Lib.hid (⟨hsm1, hsm2⟩ : _ ∧ _)
          have hj1 : IntKind.i64.wrap ((j : Int) - 1) = (j : Int) - 1 := IntWalk.i64_in _ (by omega)
          have hj2 : (0 : Int) ≤ (j : Int) - 1 := by omega
          have hj3 : (j : Int) - 1 < d.size := by omega
          have hj4 : ((j : Int) - 1).toNat = j - 1 := by omega
          have hj5 : (0 : Int) < j := by omega
          have hj7 : (1 : Int) ≤ j := by omega
          have hj6 : (j : Int) < d.size := by omega
          clear hx hy hsm1 hsm2 f1 f2 f3 f4
          go_wp2
          refine wp_region_S [(14, fun w => w.cell? ⟨g, j * 2, none⟩ = some (.int .i64 x.1) ∧ w.cell? ⟨g, j * 2 + 1, none⟩ = some (.int .i64 x.2) ∧ w.cell? ⟨g, (j - 1) * 2, none⟩ = some (.int .i64 y.1) ∧ w.cell? ⟨g, (j - 1) * 2 + 1, none⟩ = some (.int .i64 y.2))] rfl ?_ ?_
          · simp only [List.mem_cons, List.not_mem_nil, or_false, forall_eq]
            exact ⟨c1, c2, c3, c4⟩
          refine WS.takeP (i := 0) (v := ?_) rfl (by kernel_rfl) (by kernel_rfl) (by kernel_rfl) rfl (fun _ _ _ h => h) (by rfl) (fun w1 => ?_) ?_
          rotate_left 1
          · go_simp; try with_reducible rfl
          try simp only [Act.put, List.setIfInBounds_toArray, List.set_cons_zero, List.set_cons_succ]
          refine WS.takeP (i := 1) (v := ?_) rfl (by kernel_rfl) (by kernel_rfl) (by kernel_rfl) rfl (fun _ _ _ h => h) (by rfl) (fun w1 => ?_) ?_
          rotate_left 1
          · go_simp; try with_reducible rfl
          try simp only [Act.put, List.setIfInBounds_toArray, List.set_cons_zero, List.set_cons_succ]
          refine WS.takeP (i := 2) (v := ?_) rfl (by kernel_rfl) (by kernel_rfl) (by kernel_rfl) rfl (fun _ _ _ h => h) (by rfl) (fun w1 => ?_) ?_
          rotate_left 1
          · go_simp; try with_reducible rfl
          try simp only [Act.put, List.setIfInBounds_toArray, List.set_cons_zero, List.set_cons_succ]
          refine WS.takeP (i := 3) (v := ?_) rfl (by kernel_rfl) (by kernel_rfl) (by kernel_rfl) rfl (fun _ _ _ h => h) (by rfl) (fun w1 => ?_) ?_
          rotate_left 1
          · go_simp; try with_reducible rfl
          try simp only [Act.put, List.setIfInBounds_toArray, List.set_cons_zero, List.set_cons_succ]
          refine WS.takeP (i := 4) (v := ?_) rfl (by kernel_rfl) (by kernel_rfl) (by kernel_rfl) rfl (fun _ _ _ h => h) (by rfl) (fun w1 => ?_) ?_
          rotate_left 1
          · go_simp; try with_reducible rfl
          try simp only [Act.put, List.setIfInBounds_toArray, List.set_cons_zero, List.set_cons_succ]
          refine WS.takeP (i := 5) (v := ?_) rfl (by kernel_rfl) (by kernel_rfl) (by kernel_rfl) rfl (fun _ _ _ h => h) (by rfl) (fun w1 => ?_) ?_
          rotate_left 1
          · go_simp; try with_reducible rfl
          try simp only [Act.put, List.setIfInBounds_toArray, List.set_cons_zero, List.set_cons_succ]
          refine WS.takeP (i := 6) (v := ?_) rfl (by kernel_rfl) (by kernel_rfl) (by kernel_rfl) rfl (fun _ _ _ h => h) (by rfl) (fun w1 => ?_) ?_
          rotate_left 1
          · go_simp; try with_reducible rfl
          try simp only [Act.put, List.setIfInBounds_toArray, List.set_cons_zero, List.set_cons_succ]
          refine WS.takeP (i := 7) (v := ?_) rfl (by kernel_rfl) (by kernel_rfl) (by kernel_rfl) rfl (fun _ _ _ h => h) (by rfl) (fun w1 => ?_) ?_
          rotate_left 1
          · go_simp; try with_reducible rfl
          try simp only [Act.put, List.setIfInBounds_toArray, List.set_cons_zero, List.set_cons_succ]
          refine WS.takeR (i := 8) (v := ?_) (14) _ (by first | exact .head _ | exact .tail _ (.head _) | exact .tail _ (.tail _ (.head _))) rfl (by kernel_rfl) (by kernel_rfl) (by kernel_rfl) rfl (by kernel_rfl) rfl (fun _ _ _ h => h) (by rfl) (fun w1 hR => ?_) ?_
          rotate_left 1
          · (obtain ⟨r1, r2, r3, r4⟩ := hR); go_simp; try with_reducible rfl
          try simp only [Act.put, List.setIfInBounds_toArray, List.set_cons_zero, List.set_cons_succ]
          refine WS.takeP (i := 9) (v := ?_) rfl (by kernel_rfl) (by kernel_rfl) (by kernel_rfl) rfl (fun _ _ _ h => h) (by rfl) (fun w1 => ?_) ?_
          rotate_left 1
          · go_simp; try with_reducible rfl
          try simp only [Act.put, List.setIfInBounds_toArray, List.set_cons_zero, List.set_cons_succ]
          refine WS.takeP (i := 10) (v := ?_) rfl (by kernel_rfl) (by kernel_rfl) (by kernel_rfl) rfl (fun _ _ _ h => h) (by rfl) (fun w1 => ?_) ?_
          rotate_left 1
          · go_simp; try with_reducible rfl
          try simp only [Act.put, List.setIfInBounds_toArray, List.set_cons_zero, List.set_cons_succ]
          refine WS.takeP (i := 11) (v := ?_) rfl (by kernel_rfl) (by kernel_rfl) (by kernel_rfl) rfl (fun _ _ _ h => h) (by rfl) (fun w1 => ?_) ?_
          rotate_left 1
          · go_simp; try with_reducible rfl
          try simp only [Act.put, List.setIfInBounds_toArray, List.set_cons_zero, List.set_cons_succ]
          refine WS.takeP (i := 12) (v := ?_) rfl (by kernel_rfl) (by kernel_rfl) (by kernel_rfl) rfl (fun _ _ _ h => h) (by rfl) (fun w1 => ?_) ?_
          rotate_left 1
          · go_simp; try with_reducible rfl
          try simp only [Act.put, List.setIfInBounds_toArray, List.set_cons_zero, List.set_cons_succ]
          refine WS.takeR (i := 13) (v := ?_) (14) _ (by first | exact .head _ | exact .tail _ (.head _) | exact .tail _ (.tail _ (.head _))) rfl (by kernel_rfl) (by kernel_rfl) (by kernel_rfl) rfl (by kernel_rfl) rfl (fun _ _ _ h => h) (by rfl) (fun w1 hR => ?_) ?_
          rotate_left 1
          · (obtain ⟨r1, r2, r3, r4⟩ := hR); go_simp; try with_reducible rfl
          try simp only [Act.put, List.setIfInBounds_toArray, List.set_cons_zero, List.set_cons_succ]
          refine WS.one (i := 14) rfl (by kernel_rfl) (by rfl) (fun K hK => ?_)
          go_simp
          refine hless.mono ?_
          rintro e w1 ⟨rfl, hk1⟩
          refine hK _ _ (fun q hq hq2 => ?_) ?_
          · simp only [List.mem_cons, List.not_mem_nil, or_false] at hq
            subst hq
            revert hq2
            simp
          by_cases hxy : x.1 < y.1
          · have hd0 : x.1 - y.1 < 0 := by omega
            refine WS.takeP (i := 15) (v := ?_) rfl (by kernel_rfl) (by kernel_rfl) (by kernel_rfl) rfl (fun _ _ _ h => h) (by rfl) (fun w1 => ?_) ?_
            rotate_left 1
            · go_simp; try with_reducible rfl
            try simp only [Act.put, List.setIfInBounds_toArray, List.set_cons_zero, List.set_cons_succ]
            refine WS.takeP (i := 16) (v := ?_) rfl (by kernel_rfl) (by kernel_rfl) (by kernel_rfl) rfl (fun _ _ _ h => h) (by rfl) (fun w1 => ?_) ?_
            rotate_left 1
            · go_simp; try with_reducible rfl
            try simp only [Act.put, List.setIfInBounds_toArray, List.set_cons_zero, List.set_cons_succ]
            refine WS.done (by kernel_rfl) ?_
            go_wp2
            obtain ⟨c1, c2, f1, f2⟩ := lo_cells hk1 hjb
            obtain ⟨c3, c4, f3, f4⟩ := lo_cells hk1 (show j - 1 < dj.size by omega)
            rw [HX.out] at c1 c2
            rw [HY.out] at c3 c4
            refine wp_region_S [(15, fun w => w.cell? ⟨g, j * 2, none⟩ = some (.int .i64 x.1) ∧ w.cell? ⟨g, j * 2 + 1, none⟩ = some (.int .i64 x.2) ∧ w.cell? ⟨g, (j - 1) * 2, none⟩ = some (.int .i64 y.1) ∧ w.cell? ⟨g, (j - 1) * 2 + 1, none⟩ = some (.int .i64 y.2))] rfl ?_ ?_
            · simp only [List.mem_cons, List.not_mem_nil, or_false, forall_eq]
              exact ⟨c1, c2, c3, c4⟩
            refine WS.takeP (i := 0) (v := ?_) rfl (by kernel_rfl) (by kernel_rfl) (by kernel_rfl) rfl (fun _ _ _ h => h) (by rfl) (fun w1 => ?_) ?_
            rotate_left 1
            · go_simp; try with_reducible rfl
            try simp only [Act.put, List.setIfInBounds_toArray, List.set_cons_zero, List.set_cons_succ]
            refine WS.takeP (i := 1) (v := ?_) rfl (by kernel_rfl) (by kernel_rfl) (by kernel_rfl) rfl (fun _ _ _ h => h) (by rfl) (fun w1 => ?_) ?_
            rotate_left 1
            · go_simp; try with_reducible rfl
            try simp only [Act.put, List.setIfInBounds_toArray, List.set_cons_zero, List.set_cons_succ]
            refine WS.takeP (i := 2) (v := ?_) rfl (by kernel_rfl) (by kernel_rfl) (by kernel_rfl) rfl (fun _ _ _ h => h) (by rfl) (fun w1 => ?_) ?_
            rotate_left 1
            · go_simp; try with_reducible rfl
            try simp only [Act.put, List.setIfInBounds_toArray, List.set_cons_zero, List.set_cons_succ]
            refine WS.takeP (i := 3) (v := ?_) rfl (by kernel_rfl) (by kernel_rfl) (by kernel_rfl) rfl (fun _ _ _ h => h) (by rfl) (fun w1 => ?_) ?_
            rotate_left 1
            · go_simp; try with_reducible rfl
            try simp only [Act.put, List.setIfInBounds_toArray, List.set_cons_zero, List.set_cons_succ]
            refine WS.takeP (i := 4) (v := ?_) rfl (by kernel_rfl) (by kernel_rfl) (by kernel_rfl) rfl (fun _ _ _ h => h) (by rfl) (fun w1 => ?_) ?_
            rotate_left 1
            · go_simp; try with_reducible rfl
            try simp only [Act.put, List.setIfInBounds_toArray, List.set_cons_zero, List.set_cons_succ]
            refine WS.takeP (i := 5) (v := ?_) rfl (by kernel_rfl) (by kernel_rfl) (by kernel_rfl) rfl (fun _ _ _ h => h) (by rfl) (fun w1 => ?_) ?_
            rotate_left 1
            · go_simp; try with_reducible rfl
            try simp only [Act.put, List.setIfInBounds_toArray, List.set_cons_zero, List.set_cons_succ]
            refine WS.takeP (i := 6) (v := ?_) rfl (by kernel_rfl) (by kernel_rfl) (by kernel_rfl) rfl (fun _ _ _ h => h) (by rfl) (fun w1 => ?_) ?_
            rotate_left 1
            · go_simp; try with_reducible rfl
            try simp only [Act.put, List.setIfInBounds_toArray, List.set_cons_zero, List.set_cons_succ]
            refine WS.takeP (i := 7) (v := ?_) rfl (by kernel_rfl) (by kernel_rfl) (by kernel_rfl) rfl (fun _ _ _ h => h) (by rfl) (fun w1 => ?_) ?_
            rotate_left 1
            · go_simp; try with_reducible rfl
            try simp only [Act.put, List.setIfInBounds_toArray, List.set_cons_zero, List.set_cons_succ]
            refine WS.takeP (i := 8) (v := ?_) rfl (by kernel_rfl) (by kernel_rfl) (by kernel_rfl) rfl (fun _ _ _ h => h) (by rfl) (fun w1 => ?_) ?_
            rotate_left 1
            · go_simp; try with_reducible rfl
            try simp only [Act.put, List.setIfInBounds_toArray, List.set_cons_zero, List.set_cons_succ]
            refine WS.takeR (i := 9) (v := ?_) (15) _ (by first | exact .head _ | exact .tail _ (.head _) | exact .tail _ (.tail _ (.head _))) rfl (by kernel_rfl) (by kernel_rfl) (by kernel_rfl) rfl (by kernel_rfl) rfl (fun _ _ _ h => h) (by rfl) (fun w1 hR => ?_) ?_
            rotate_left 1
            · (obtain ⟨r1, r2, r3, r4⟩ := hR); go_simp; try with_reducible rfl
            try simp only [Act.put, List.setIfInBounds_toArray, List.set_cons_zero, List.set_cons_succ]
            refine WS.takeP (i := 10) (v := ?_) rfl (by kernel_rfl) (by kernel_rfl) (by kernel_rfl) rfl (fun _ _ _ h => h) (by rfl) (fun w1 => ?_) ?_
            rotate_left 1
            · go_simp; try with_reducible rfl
            try simp only [Act.put, List.setIfInBounds_toArray, List.set_cons_zero, List.set_cons_succ]
            refine WS.takeP (i := 11) (v := ?_) rfl (by kernel_rfl) (by kernel_rfl) (by kernel_rfl) rfl (fun _ _ _ h => h) (by rfl) (fun w1 => ?_) ?_
            rotate_left 1
            · go_simp; try with_reducible rfl
            try simp only [Act.put, List.setIfInBounds_toArray, List.set_cons_zero, List.set_cons_succ]
            refine WS.takeP (i := 12) (v := ?_) rfl (by kernel_rfl) (by kernel_rfl) (by kernel_rfl) rfl (fun _ _ _ h => h) (by rfl) (fun w1 => ?_) ?_
            rotate_left 1
            · go_simp; try with_reducible rfl
            try simp only [Act.put, List.setIfInBounds_toArray, List.set_cons_zero, List.set_cons_succ]
            refine WS.takeR (i := 13) (v := ?_) (15) _ (by first | exact .head _ | exact .tail _ (.head _) | exact .tail _ (.tail _ (.head _))) rfl (by kernel_rfl) (by kernel_rfl) (by kernel_rfl) rfl (by kernel_rfl) rfl (fun _ _ _ h => h) (by rfl) (fun w1 hR => ?_) ?_
            rotate_left 1
            · (obtain ⟨r1, r2, r3, r4⟩ := hR); go_simp; try with_reducible rfl
            try simp only [Act.put, List.setIfInBounds_toArray, List.set_cons_zero, List.set_cons_succ]
            refine WS.takeP (i := 14) (v := ?_) rfl (by kernel_rfl) (by kernel_rfl) (by kernel_rfl) rfl (fun _ _ _ h => h) (by rfl) (fun w1 => ?_) ?_
            rotate_left 1
            · go_simp; try with_reducible rfl
            try simp only [Act.put, List.setIfInBounds_toArray, List.set_cons_zero, List.set_cons_succ]
            refine WS.one (i := 15) rfl (by kernel_rfl) (by rfl) (fun K hK => ?_)
            go_simp
            have hk2 := (lo_set hk1 hjb y).drew
            generalize ((w1.setCell ⟨g, j * 2, none⟩ (.int .i64 y.1)).setCell ⟨g, j * 2 + 1, none⟩ (.int .i64 y.2)).drew = w2 at hk2 ⊢
            refine hK _ _ (fun q hq hq2 => ?_) ?_
            · simp only [List.mem_cons, List.not_mem_nil, or_false] at hq
              subst hq
              revert hq2
              simp
            refine WS.takeP (i := 16) (v := ?_) rfl (by kernel_rfl) (by kernel_rfl) (by kernel_rfl) rfl (fun _ _ _ h => h) (by rfl) (fun w1 => ?_) ?_
            rotate_left 1
            · go_simp; try with_reducible rfl
            try simp only [Act.put, List.setIfInBounds_toArray, List.set_cons_zero, List.set_cons_succ]
            obtain ⟨c1, c2, f1, f2⟩ := lo_cells hk2 (i := j - 1) (by simp; omega)
            refine WS.one (i := 17) rfl (by kernel_rfl) (by rfl) (fun K hK => ?_)
            go_simp
            have hk3 := lo_set hk2 (i := j - 1) (by simp; omega) x
            generalize ((w2.setCell ⟨g, (j - 1) * 2, none⟩ (.int .i64 x.1)).setCell ⟨g, (j - 1) * 2 + 1, none⟩ (.int .i64 x.2)) = w3 at hk3 ⊢
            refine hK _ _ (fun q hq hq2 => ?_) ?_
            · simp only [List.mem_cons, List.not_mem_nil, or_false] at hq
              subst hq
              revert hq2
              simp
            refine WS.done (by kernel_rfl) ?_
            have hk4 : S W0 w3 (F * blk g (loObj (Sort.swp dj j (j - 1)) spare)) := by
              rw [Sort.swp, HX.out, HY.out]; exact hk3
            clear hk3 hk2 c1 c2 f1 f2 c3 c4 f3 f4
            go_wp2
            go_roundw
            case rel =>
              (repeat apply Exists.intro)
              refine ⟨⟨j - 1, Sort.swp dj j (j - 1), by congr 1 <;> omega, by omega, by rw [Sort.size_swp]; exact hsj, hsmj.swp hjb (by omega), hk4, ?_⟩, by rw [decide_eq_true hlt, show ((j - 1 : Nat) : Int) = (j : Int) - 1 by omega]⟩
              rw [← HI.out, insInner_go _ _ _ _ hja (by rw [HX.out, HY.out]; simp [loLt]; omega)]
            case measure => simp [intOf]; omega
          · have hd0 : ¬ x.1 - y.1 < 0 := by omega
            refine WS.takeP (i := 15) (v := ?_) rfl (by kernel_rfl) (by kernel_rfl) (by kernel_rfl) rfl (fun _ _ _ h => h) (by rfl) (fun w1 => ?_) ?_
            rotate_left 1
            · go_simp; try with_reducible rfl
            try simp only [Act.put, List.setIfInBounds_toArray, List.set_cons_zero, List.set_cons_succ]
            refine WS.takeP (i := 16) (v := ?_) rfl (by kernel_rfl) (by kernel_rfl) (by kernel_rfl) rfl (fun _ _ _ h => h) (by rfl) (fun w1 => ?_) ?_
            rotate_left 1
            · go_simp; try with_reducible rfl
            try simp only [Act.put, List.setIfInBounds_toArray, List.set_cons_zero, List.set_cons_succ]
            refine WS.done (by kernel_rfl) ?_
            go_wp2
            go_roundw
            case rel => exact ⟨i + 1, dj, by go_num, by omega, by omega, hsj, hsmj, hk1, OUT.out (.inr (by simp [loLt]; omega))⟩
            case measure => simp [intOf]; omega
        · go_wp2
          go_quiet (fail)
          go_wp2
          go_roundw
          case rel => exact ⟨i + 1, dj, by go_num, by omega, by omega, hsj, hsmj, drewN_S _ hkj, OUT.out (.inl (by omega))⟩
          case measure => simp [intOf]; omega
    · have hge : ¬ i < d.size := by assumption
      go_end0
      rw [insOuter_stop _ _ _ _ _ hge] at HO
      exact ⟨rfl, by rw [Sort.insertionSort, ← HO.out]; exact hk⟩
end
end Go.Proofs.Ytnkjkkbjplneeaa
