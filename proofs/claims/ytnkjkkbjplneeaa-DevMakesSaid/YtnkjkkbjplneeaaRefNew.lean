/-
  What the document's New makes.
-/
import Derived.Test.YtnkjkkbjplneeaaRefA
import Derived.Test.YtnkjkkbjplneeaaDevNew
namespace Go.Proofs.Ytnkjkkbjplneeaa
open Go.RowKit Go.SL
set_option maxRecDepth 100000
set_option linter.unusedSimpArgs false
set_option linter.unusedVariables false
theorem zeroRow_flat (z : Value) (n k : Nat) (hz : z.cells.size = k) (hk : 0 < k) : zeroRow z n k = (List.replicate n z.cells.toList).flatten.toArray := by
  apply Array.ext'
  unfold zeroRow madeCells
  have hall : ∀ l ∈ List.replicate n z.cells.toList, l.length = k := by
    intro l hl; rw [(List.mem_replicate.1 hl).2]; simpa using hz
  apply List.ext_getElem?
  intro j
  have hlen := flat_length k _ hall
  rw [List.length_replicate] at hlen
  by_cases hj : j < n * k
  · have e : j = j / k * k + j % k := by rw [Nat.mul_comm]; exact (Nat.div_add_mod j k).symm
    have hm := Nat.mod_lt j hk
    have hd : j / k < n := Nat.div_lt_of_lt_mul (by rw [Nat.mul_comm]; exact hj)
    have := flat_get k (List.replicate n z.cells.toList) hall (j / k) (j % k) z.cells.toList (by simp [hd]) hm
    rw [← e] at this
    simp only [List.getElem?_toArray, Array.toList_map, Array.toList_range, List.getElem?_map, List.getElem?_range hj, Option.map_some, this, hz]
    rw [getElem!_pos _ _ (by rw [hz]; exact hm)]
    simp [hz, hm]
  · rw [List.getElem?_eq_none (by simpa using Nat.le_of_not_lt hj), List.getElem?_eq_none (by rw [List.toList_toArray, hlen]; omega)]
theorem vecB_nil {T k : Nat} : vecB T k (.slice none 0 0) 0 [] = emp := by
  funext h
  apply propext
  constructor
  · rintro (⟨_, _, _, rfl⟩ | ⟨g, m, spare, h1, _⟩)
    · rfl
    · cases h1
  · rintro rfl; exact .inl ⟨rfl, rfl, rfl, rfl⟩
theorem stars_replicate_emp (n : Nat) : stars (List.replicate n emp) = emp := by
  induction n with
  | zero => rfl
  | succ n ih => rw [List.replicate_succ]; simp [stars, ih, star_emp]
def oneZ : Value := .agg #[strV [], .slice none 0 0, .bool false]
theorem TOnes : SliceT Try.prog 55 62 3 48 oneZ := sliceT_of Try.underlying55 (by kernel_rfl) rfl (by decide)
def rmaking (n i : Nat) : List Sec := List.replicate i secNew ++ List.replicate (n - i) ⟨[], [], false⟩
theorem rmaking_step {n i : Nat} (h : i < n) : (rmaking n i).set i secNew = rmaking n (i + 1) := by
  obtain ⟨d, hd⟩ : ∃ d, n - i = d + 1 := ⟨n - i - 1, by omega⟩
  unfold rmaking
  rw [hd, show n - (i + 1) = d by omega, List.set_append_right _ _ (by simp), List.length_replicate, Nat.sub_self, List.replicate_succ, List.set_cons_zero, List.replicate_succ']
  simp
section
variable (W0 w : World) (F : HProp) (q : Nat)
set_option maxHeartbeats 1000000 in
theorem RefNew (n : Nat) (hn : n ≤ 4096) (hs : S W0 w F) :
    Calls Try.prog 30 #[.int .i64 (n : Int), .pointer (some ⟨q, 0, none⟩)] w fun e w' => ∃ b, e = .returned (.pointer (some ⟨b, 0, none⟩)) ∧ S W0 w' (F * rdevO b q (.new n)) := by
  go_enter Try.func30, Try.ntmps30
  go_wp2_with (first | (at_make; refine wp_make_S TOnes rfl rfl n hs rfl rfl rfl rfl (by omega) (by omega) ?_; intro gb w1 hs1))
  have hs2 := hs1.alloc (.cells #[.pointer (some ⟨q, 0, none⟩), .slice (some ⟨gb, 0, none⟩) n n, .int .u64 0, .int .u64 0] 57)
  have hs3 : S W0 _ (F * rdevG w1.heap.size q ⟨rmaking n 0, 0, 0⟩ ⟨gb, List.replicate n (.slice none 0 0)⟩) := rdevG.of_top (S.to hs2 (by
    have e1 : List.zipWith strsO (List.replicate n (Value.slice none 0 0)) (rmaking n 0) = List.replicate n (vecB 9 1 (.slice none 0 0) 0 []) := by
      simp [rmaking, strsO, List.zipWith_replicate, strsV]
    have e2 : vecB 9 1 (.slice none 0 0) 0 [] = emp := vecB_nil
    have e3 : (onesL (List.replicate n (Value.slice none 0 0)) (rmaking n 0)).flatten.toArray = zeroRow oneZ n 3 := by
      rw [zeroRow_flat oneZ n 3 rfl (by decide)]
      simp [rmaking, onesL, List.zipWith_replicate, oneC, oneZ, Value.cells]
    have e4 : rcells q ⟨rmaking n 0, 0, 0⟩ ⟨gb, List.replicate n (.slice none 0 0)⟩ = #[.pointer (some ⟨q, 0, none⟩), .slice (some ⟨gb, 0, none⟩) n n, .int .u64 0, .int .u64 0] := by simp [rcells, rmaking]
    rw [e1, e2, e4, stars_replicate_emp, star_emp]
    show _ = F * blk gb (.cells (onesL (List.replicate n (Value.slice none 0 0)) (rmaking n 0)).flatten.toArray 62 (0, 0)) * _
    rw [e3]))
  clear hs1 hs2
  generalize w1.heap.size = b at hs3 ⊢
  go_loopw [6] (fun vi wr => ∃ i : Nat, vi = .int .i64 i ∧ i ≤ n ∧ S W0 wr (F * rdevG b q ⟨rmaking n i, 0, 0⟩ ⟨gb, List.replicate n (.slice none 0 0)⟩)) (fun vi _ => n - (intOf vi).toNat)
  case atStart => exact ⟨0, rfl, by omega, hs3⟩
  case round =>
    clear hs3
    obtain ⟨i, rfl, hi, hs3⟩ := hrel
    by_cases hlt : i < n
    · obtain ⟨c0, c1, c2, c3, fr⟩ := rdevG.cells hs3
      have hlen : (rmaking n i).length = n := by simp [rmaking]; omega
      simp only [hlen] at c1
      have hg : (rmaking n i)[i]? = some ⟨[], [], false⟩ := by simp [rmaking, List.getElem?_append, List.getElem?_replicate, show ¬ n - i = 0 by omega, show 0 < n - i by omega]
      obtain ⟨lv, hlv, d0, d1, d2, fr2⟩ := rdevG.at hs3 (by simp [hlen]) hg
      obtain rfl : lv = .slice none 0 0 := by simp [List.getElem?_replicate, hlt] at hlv; exact hlv.symm
      have ff := fr2 (i * 3)
      have i0 : (0 : Int) ≤ i := by omega
      have i1 : (i : Int) < n := by omega
      clear c0 c2 c3 fr d1 d2 fr2 hlv
      go_wp2
      refine wp_region_S [(9, fun w => w.cell? ⟨b, 1, none⟩ = some (.slice (some ⟨gb, 0, none⟩) n n))] rfl ?_ ?_
      · simp only [List.mem_cons, List.not_mem_nil, or_false, forall_eq]
        exact c1
      refine WS.takeP (i := 0) (v := ?_) rfl (by kernel_rfl) (by kernel_rfl) (by kernel_rfl) rfl (fun _ _ _ h => h) (by rfl) (fun w1 => ?_) ?_
      rotate_left 1
      · go_simp; try with_reducible rfl
      try simp only [Act.put, List.setIfInBounds_toArray, List.set_cons_zero, List.set_cons_succ]
      refine WS.takeP (i := 1) (v := ?_) rfl (by kernel_rfl) (by kernel_rfl) (by kernel_rfl) rfl (fun _ _ _ h => h) (by rfl) (fun w1 => ?_) ?_
      rotate_left 1
      · go_simp; try with_reducible rfl
      try simp only [Act.put, List.setIfInBounds_toArray, List.set_cons_zero, List.set_cons_succ]
      refine WS.takeP (i := 2) (v := ?_) rfl (by kernel_rfl) (by kernel_rfl) (by kernel_rfl) rfl (fun _ _ _ h => h) (by rfl) (fun w1 => ?_) ?_
      rotate_left 1
      · go_simp; try with_reducible rfl
      try simp only [Act.put, List.setIfInBounds_toArray, List.set_cons_zero, List.set_cons_succ]
      refine WS.takeR (i := 3) (v := ?_) (9) _ (by first | exact .head _ | exact .tail _ (.head _) | exact .tail _ (.tail _ (.head _))) rfl (by kernel_rfl) (by kernel_rfl) (by kernel_rfl) rfl (by kernel_rfl) rfl (fun _ _ _ h => h) (by rfl) (fun w1 hR => ?_) ?_
      rotate_left 1
      · (skip); go_simp; try with_reducible rfl
      try simp only [Act.put, List.setIfInBounds_toArray, List.set_cons_zero, List.set_cons_succ]
      refine WS.takeP (i := 4) (v := ?_) rfl (by kernel_rfl) (by kernel_rfl) (by kernel_rfl) rfl (fun _ _ _ h => h) (by rfl) (fun w1 => ?_) ?_
      rotate_left 1
      · go_simp; try with_reducible rfl
      try simp only [Act.put, List.setIfInBounds_toArray, List.set_cons_zero, List.set_cons_succ]
      refine WS.one (i := 5) rfl (by kernel_rfl) (by rfl) (fun K hK => ?_)
      have h64 : ((64 : Nat) : Int) = 64 := by omega
      refine wp_make_K TU8 rfl 64 hs3.drew rfl rfl h64.symm h64.symm (by omega) (by omega) ?_
      intro gn w5 hs4
      simp only [Act.put, List.setIfInBounds_toArray, List.set_cons_zero, List.set_cons_succ]
      have hs5 := hs4.p1
      obtain ⟨c0, c1, c2, c3, fr⟩ := rdevG.cells hs5
      simp only [hlen] at c1
      obtain ⟨lv, hlv, d0, d1, d2, fr2⟩ := rdevG.at hs5 (by simp [hlen]) hg
      have ff := fr2 (i * 3)
      have hrd : Reads w5 1 (.slice (some ⟨gn, 0, none⟩) 64 64) (List.replicate 64 (0 : UInt8)).length (u8s (List.replicate 64 0)) := by
        refine ⟨by simp [u8s], .inr ⟨gn, 0, 64, rfl, by simp, by simp [maxLen], fun j u hj => ?_⟩⟩
        rw [cell_at hs4.heap, zeroRow_one _ rfl 64]
        simpa [u8s] using hj
      have hcv := run_str_S (P := Try.prog) Try.underlying44 Try.underlying5 Try.underlying9 hrd
      refine hK _ _ (fun q hq _ => ?_) ?_
      · simp only [List.mem_cons, List.not_mem_nil, or_false] at hq
        subst hq
        exact c1
      obtain ⟨zz, hz⟩ : ∃ zz, strV (List.replicate 64 0) = .string zz := ⟨_, rfl⟩
      rw [hz] at hcv
      have HZ := Lib.hid hz
      clear hz
      refine WS.one (i := 6) rfl (by kernel_rfl) (by rfl) (fun K hK => ?_)
      go_simp
      refine hK _ _ (fun q hq _ => ?_) ?_
      · simp only [List.mem_cons, List.not_mem_nil, or_false] at hq
        subst hq
        exact c1
      refine WS.takeP (i := 7) (v := ?_) rfl (by kernel_rfl) (by kernel_rfl) (by kernel_rfl) rfl (fun _ _ _ h => h) (by rfl) (fun w1 => ?_) ?_
      rotate_left 1
      · go_simp; try with_reducible rfl
      try simp only [Act.put, List.setIfInBounds_toArray, List.set_cons_zero, List.set_cons_succ]
      refine WS.takeP (i := 8) (v := ?_) rfl (by kernel_rfl) (by kernel_rfl) (by kernel_rfl) rfl (fun _ _ _ h => h) (by rfl) (fun w1 => ?_) ?_
      rotate_left 1
      · go_simp; try with_reducible rfl
      try simp only [Act.put, List.setIfInBounds_toArray, List.set_cons_zero, List.set_cons_succ]
      refine WS.one (i := 9) rfl (by kernel_rfl) (by rfl) (fun K hK => ?_)
      go_simp
      refine hK _ _ (fun q hq hq2 => ?_) ?_
      · simp only [List.mem_cons, List.not_mem_nil, or_false] at hq
        subst hq
        revert hq2
        simp
      refine WS.done (by kernel_rfl) ?_
      have hs6 := ((rdevG.top hs4.left).p1.set (i := i * 3) (v := .string zz))
      have hs7 : S W0 (w5.setCell ⟨gb, i * 3, none⟩ (.string zz)) (F * rdevG b q ⟨rmaking n (i + 1), 0, 0⟩ ⟨gb, List.replicate n (.slice none 0 0)⟩) := rdevG.of_top (S.to hs6 (by
        have el : (List.replicate n (Value.slice none 0 0)).set i (.slice none 0 0) = List.replicate n (Value.slice none 0 0) := by
          apply List.ext_getElem?
          intro j
          rw [List.getElem?_set]
          split
          · rename_i h; subst h; simp [List.getElem?_replicate, hlt]
          · rfl
        have e1 : stars (List.zipWith strsO (List.replicate n (Value.slice none 0 0)) (rmaking n (i + 1))) = stars (List.zipWith strsO (List.replicate n (Value.slice none 0 0)) (rmaking n i)) := by
          have hgv : (List.replicate n (Value.slice none 0 0))[i]? = some (.slice none 0 0) := by simp [List.getElem?_replicate, hlt]
          have hh := strsO_set (List.replicate n (Value.slice none 0 0)) (rmaking n i) (by simp [hlen]) (i := i) (by omega) (.slice none 0 0) secNew
          rw [el, rmaking_step hlt] at hh
          rw [hh]
          exact (strsO_get (D := ⟨rmaking n i, 0, 0⟩) (g := ⟨gb, List.replicate n (.slice none 0 0)⟩) (by simp [hlen]) hg hgv).symm
        have e2 : (onesL (List.replicate n (Value.slice none 0 0)) (rmaking n i)).flatten.toArray.setIfInBounds (i * 3) (.string zz) = (onesL (List.replicate n (Value.slice none 0 0)) (rmaking n (i + 1))).flatten.toArray := by
          have hgv : (List.replicate n (Value.slice none 0 0))[i]? = some (.slice none 0 0) := by simp [List.getElem?_replicate, hlt]
          have f := flat_set 3 (onesL (List.replicate n (Value.slice none 0 0)) (rmaking n i)) (onesL_len _ _) i 0 _ (.string zz) (onesL_get hgv hg) (by decide)
          rw [List.setIfInBounds_toArray, show i * 3 = i * 3 + 0 by omega, f, ← HZ.out]
          have hh := onesL_set (List.replicate n (Value.slice none 0 0)) (rmaking n i) i (.slice none 0 0) secNew (by simp [hlen]) (by omega)
          rw [el, rmaking_step hlt] at hh
          rw [hh]; rfl
        have e3 : rcells q ⟨rmaking n (i + 1), 0, 0⟩ ⟨gb, List.replicate n (.slice none 0 0)⟩ = rcells q ⟨rmaking n i, 0, 0⟩ ⟨gb, List.replicate n (.slice none 0 0)⟩ := by
          have : (rmaking n (i + 1)).length = n := by simp [rmaking]; omega
          simp [rcells, hlen, this]
        rw [e1, e3]
        show _ = F * _ * blk gb (.cells (onesL (List.replicate n (Value.slice none 0 0)) (rmaking n (i + 1))).flatten.toArray 62 (0, 0)) * _
        rw [← e2]
        dsimp only
        ac_rfl))
      clear hs6 hs5 hs4 c0 c1 c2 c3 fr d0 d1 d2 fr2 ff hcv hrd
      go_wp2
      go_roundw
      case rel => exact ⟨i + 1, by go_num, by omega, hs7⟩
      case measure => simp [intOf]; omega
    · have hin : n = i := by omega
      subst hin
      have e : rmaking n n = List.replicate n secNew := by simp [rmaking]
      have hs4 := rdevO.shut (D := DevA.new n) (by unfold DevA.new; rw [← e]; exact hs3) (by simp [DevA.new]) (new_ok n hn)
      clear hs3
      go_wp2
      go_ret
      exact ⟨b, rfl, hs4⟩
end
end Go.Proofs.Ytnkjkkbjplneeaa
