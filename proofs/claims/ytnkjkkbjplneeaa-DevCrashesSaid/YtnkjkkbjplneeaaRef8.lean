/-
  What the document's Fit makes.
-/
import Derived.Test.YtnkjkkbjplneeaaRef7
import Derived.Test.YtnkjkkbjplneeaaActs
namespace Go.Proofs.Ytnkjkkbjplneeaa
open Go.RowKit Go.SL
set_option maxRecDepth 100000
set_option linter.unusedSimpArgs false
set_option linter.unusedVariables false
/-- Fates that may be, out of any. -/
def fitK (k m : Int) : Int := if Int.tmod k (m + 1) < 0 then 0 - Int.tmod k (m + 1) else Int.tmod k (m + 1)
def fitN (ls : List (Int × Int)) (fates : List Int) (n : Nat) : List Int := ((fates.zip ls).take n).map fun p => fitK p.1 p.2.2
def fitL (ls : List (Int × Int)) (fates : List Int) : List Int := fitN ls fates (min fates.length ls.length)
theorem fitN_succ {ls : List (Int × Int)} {fates : List Int} {n : Nat} {k : Int} {x : Int × Int} (hk : fates[n]? = some k) (hx : ls[n]? = some x) : fitN ls fates (n + 1) = fitN ls fates n ++ [fitK k x.2] := by
  unfold fitN
  have h : (fates.zip ls)[n]? = some (k, x) := by rw [List.getElem?_zip_eq_some]; exact ⟨hk, hx⟩
  rw [List.take_add_one, h]
  simp
theorem fitN_length {ls : List (Int × Int)} {fates : List Int} {n : Nat} (h1 : n ≤ fates.length) (h2 : n ≤ ls.length) : (fitN ls fates n).length = n := by
  unfold fitN; simp; omega
theorem fitK_in {k m : Int} (hm : 0 ≤ m) : 0 ≤ fitK k m ∧ fitK k m ≤ m := by
  unfold fitK
  have h1 := Int.natAbs_tmod k (m + 1)
  have h2 : k.natAbs % (m + 1).natAbs < (m + 1).natAbs := Nat.mod_lt _ (by omega)
  split <;> omega
theorem TInts : SliceT Try.prog 38 3 1 8 (.int .i64 0) := sliceT_of Try.underlying38 (by kernel_rfl) rfl (by decide)
section
variable (W0 w : World) (F : HProp)
set_option maxHeartbeats 2000000 in
theorem RefFit (lv fv : Value) (ls : List (Int × Int)) (fates : List Int) (hls : ls.length ≤ 100000) (hlm : ∀ x ∈ ls, 0 ≤ x.2 ∧ x.2 ≤ 100000000) (hfk : ∀ k ∈ fates, ActA.in64 k)
    (hl : ∀ w, S W0 w F → Reads w 2 lv ls.length (flatL ls)) (hr : ∀ w, S W0 w F → ReadsW w 1 fv fates.length (i64s fates)) (hs : S W0 w F) :
    Calls Try.prog 18 #[lv, fv] w fun e' w' => ∃ v, e' = .returned v ∧ S W0 w' (F * vecB 3 1 v (fitL ls fates).length (i64s (fitL ls fates))) := by
  obtain ⟨ad, m, rfl⟩ := (hr w hs).shape
  obtain ⟨la, lm, rfl⟩ := reads_shape (hl w hs)
  have hmax := (hr w hs).2.1
  simp only [maxLen] at hmax
  have HL := Lib.hid (⟨hl, hlm⟩ : _ ∧ _)
  have HR := Lib.hid (⟨hr, hfk⟩ : _ ∧ _)
  clear hl hr hfk hlm
  generalize hnf : fates.length = nf at *
  generalize hnl : ls.length = nl at *
  have HN := Lib.hid (⟨hnf, hnl⟩ : _ ∧ _)
  clear hnf hnl
  have hs0 : S W0 w (F * vecB 3 1 (.slice none 0 0) (fitN ls fates 0).length (i64s (fitN ls fates 0))) := hs.to_vec_nil
  go_enter Try.func18, Try.ntmps18
  go_wp2
  go_loopw [5, 6] (fun v vi wr => ∃ i : Nat, vi = .int .i64 i ∧ i ≤ nf ∧ i ≤ nl ∧ S W0 wr (F * vecB 3 1 v (fitN ls fates i).length (i64s (fitN ls fates i)))) (fun _ vi _ => nf - (intOf vi).toNat)
  case atStart => exact ⟨0, rfl, by omega, by omega, hs0⟩
  case round =>
    clear hs0 hs
    obtain ⟨i, rfl, hi, hi2, hs1⟩ := hrel
    by_cases hlt : i < nf ∧ i < nl
    · obtain ⟨h1, h2⟩ := hlt
      have hrd := HR.out.1 _ hs1.left
      obtain ⟨fb, fo, rfl⟩ := hrd.addr (by omega)
      obtain ⟨k, hk⟩ : ∃ k, fates[i]? = some k := ⟨fates[i]'(by rw [HN.out.1]; exact h1), by simp [HN.out.1, h1]⟩
      obtain ⟨hlx', hx'⟩ : ∃ h : i < ls.length, ls[i]? = some ls[i] := ⟨by rw [HN.out.2]; exact h2, by simp [show i < ls.length by rw [HN.out.2]; exact h2]⟩
      have cf := hrd.cell (j := i) (u := .int .i64 k) (by simp [i64s, hk])
      have hrl := HL.out.1 _ hs1.left
      obtain ⟨lb, lo, rfl⟩ := reads_addr hrl (by omega)
      obtain ⟨g1, g2⟩ := flatL_get ls i hlx'
      have cl := hrl.cell (j := i * 2 + 1) g2
      have hxm := HL.out.2 ls[i] (List.getElem_mem _)
      have hkm := HR.out.2 k (List.mem_of_getElem? hk)
      generalize ls[i] = x at *
      obtain ⟨x1, x2⟩ := x
      simp only at cl hxm
      have hstep := fitN_succ hk hx'
      have hlen := fitN_length (ls := ls) (fates := fates) (n := i) (by rw [HN.out.1]; omega) (by rw [HN.out.2]; omega)
      have i0 : (0 : Int) ≤ i := by omega
      have i1 : (i : Int) < nf := by omega
      have i2 : (i : Int) < nl := by omega
      rw [show lo + (i * 2 + 1) = lo + i * 2 + 1 by omega] at cl
      obtain ⟨k1, k2⟩ := hkm
      obtain ⟨m1, m2⟩ := hxm
      have hin := fitK_in (k := k) m1
      have ht1 := Int.natAbs_tmod k (x2 + 1)
      have ht2 : k.natAbs % (x2 + 1).natAbs < (x2 + 1).natAbs := Nat.mod_lt _ (by omega)
      have hw1 : IntKind.i64.wrap (x2 + 1) = x2 + 1 := IntWalk.i64_in _ (by omega)
      have hz : ((x2 + 1) == 0) = false := by simp; omega
      have hz1 : ¬ (x2 + 1) = 0 := by omega
      have hw2 : IntKind.i64.wrap (Int.tmod k (x2 + 1)) = Int.tmod k (x2 + 1) := IntWalk.i64_in _ (by omega)
      have HS := Lib.hid hstep
      clear hrd hrl g1 g2 hx' hk hlx' hstep
      go_wp2
      go_quiet (fail)
      generalize htm : Int.tmod k (x2 + 1) = t at *
      have HTM := Lib.hid htm
      clear htm
      by_cases hneg : t < 0
      ·
        have HT := Lib.hid (show fitK k x2 = -t by unfold fitK; rw [HTM.out, if_pos hneg]; omega)
        have hw3 : IntKind.i64.wrap (-t) = -t := IntWalk.i64_in _ (by omega)
        have hs2 := drewN_S nq hs1
        have hk3 := (hs2.alloc (.cells #[.int .i64 (-t)] 3)).p1
        have hrd : Reads ((wr.drewN nq).alloc (.cells #[.int .i64 (-t)] 3)) 1 (.slice (some ⟨(wr.drewN nq).heap.size, 0, none⟩) 1 1) 1 [.int .i64 (-t)] := by
          refine ⟨rfl, .inr ⟨_, _, _, rfl, Nat.le_refl _, by simp [maxLen], fun j u hj => ?_⟩⟩
          rw [cell_at hk3.p1.heap]
          simpa using hj
        have HRD := Lib.hid hrd
        clear hrd
        go_wp2_with (at_builtin; refine wp_append_S _ _ TInts rfl rfl hk3 HRD.out rfl rfl ?_ ?_ ?_ ?_)
        · simp [Value.oneCell']
        · simp only [maxLen]; omega
        · omega
        intro v w3 hk4 _
        have hk5 : S W0 w3 (F * vecB 3 1 v (fitN ls fates (i + 1)).length (i64s (fitN ls fates (i + 1)))) := by
          rw [HS.out, HT.out, List.length_append, List.length_singleton]
          have e1 : i64s (fitN ls fates i ++ [-t]) = i64s (fitN ls fates i) ++ [.int .i64 (-t)] := by simp [i64s]
          rw [e1]
          rw [hlen]; exact hk4.p1.left
        clear hk4 hk3
        go_wp2
        go_roundw
        case rel => exact ⟨i + 1, by go_num, by omega, by omega, hk5⟩
        case measure => simp [intOf]; omega
      ·
        have HT := Lib.hid (show fitK k x2 = t by unfold fitK; rw [HTM.out, if_neg hneg])
        have hs2 := drewN_S nq hs1
        have hk3 := (hs2.alloc (.cells #[.int .i64 (t)] 3)).p1
        have hrd : Reads ((wr.drewN nq).alloc (.cells #[.int .i64 (t)] 3)) 1 (.slice (some ⟨(wr.drewN nq).heap.size, 0, none⟩) 1 1) 1 [.int .i64 (t)] := by
          refine ⟨rfl, .inr ⟨_, _, _, rfl, Nat.le_refl _, by simp [maxLen], fun j u hj => ?_⟩⟩
          rw [cell_at hk3.p1.heap]
          simpa using hj
        have HRD := Lib.hid hrd
        clear hrd
        go_wp2_with (at_builtin; refine wp_append_S _ _ TInts rfl rfl hk3 HRD.out rfl rfl ?_ ?_ ?_ ?_)
        · simp [Value.oneCell']
        · simp only [maxLen]; omega
        · omega
        intro v w3 hk4 _
        have hk5 : S W0 w3 (F * vecB 3 1 v (fitN ls fates (i + 1)).length (i64s (fitN ls fates (i + 1)))) := by
          rw [HS.out, HT.out, List.length_append, List.length_singleton]
          have e1 : i64s (fitN ls fates i ++ [t]) = i64s (fitN ls fates i) ++ [.int .i64 (t)] := by simp [i64s]
          rw [e1]
          rw [hlen]; exact hk4.p1.left
        clear hk4 hk3
        go_wp2
        go_roundw
        case rel => exact ⟨i + 1, by go_num, by omega, by omega, hk5⟩
        case measure => simp [intOf]; omega
    · have hend : fitN ls fates i = fitL ls fates := by
        unfold fitL
        have : min fates.length ls.length = i := by rw [HN.out.1, HN.out.2]; omega
        rw [this]
      rw [hend] at hs1
      clear hend
      by_cases h1 : i < nf
      · have h2 : ¬ i < nl := fun h => hlt ⟨h1, h⟩
        go_wp2
        go_ret
        exact ⟨_, rfl, hs1⟩
      · go_wp2
        go_ret
        exact ⟨_, rfl, hs1⟩
end
end Go.Proofs.Ytnkjkkbjplneeaa
