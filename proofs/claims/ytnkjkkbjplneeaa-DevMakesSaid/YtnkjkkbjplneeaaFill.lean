/-
  What Fill makes.
-/
import Derived.Test.YtnkjkkbjplneeaaBytes
namespace Go.Proofs.Ytnkjkkbjplneeaa
open Go.RowKit Go.SL
set_option maxRecDepth 100000
set_option linter.unusedSimpArgs false
set_option linter.unusedVariables false
def fillN (size : Int) : Nat := if size = 0 then 64 else (min (max size 0) 100).toNat
def fillB (c : UInt8) (size : Int) : List UInt8 := List.replicate (fillN size) c
theorem fillN_le (size : Int) : fillN size ≤ 100 := by unfold fillN; split <;> omega
theorem fill_set (n k : Nat) (c : UInt8) (h : k < n) : (u8s (List.replicate k c ++ List.replicate (n - k) 0)).toArray.setIfInBounds k (.int .u8 (c.toNat : Int)) = (u8s (List.replicate (k + 1) c ++ List.replicate (n - (k + 1)) 0)).toArray := by
  apply Array.ext'
  simp only [u8s, Array.toList_setIfInBounds]
  apply List.ext_getElem?
  intro j
  simp only [List.getElem?_set, List.length_map, List.length_append, List.length_replicate, List.getElem?_map, List.getElem?_append, List.getElem?_replicate]
  by_cases hj : k = j
  · subst hj
    simp [show k < k + (n - k) by omega]
  · by_cases h1 : j < k
    · simp [hj, h1, show j < k + 1 by omega]
    · simp [hj, h1, show ¬ j < k + 1 by omega]
      by_cases h2 : j < n
      · simp [show j - k < n - k by omega, show j - (k + 1) < n - (k + 1) by omega]
      · simp [show ¬ j - k < n - k by omega, show ¬ j - (k + 1) < n - (k + 1) by omega]
section
variable (W0 w : World) (F : HProp)
set_option maxHeartbeats 1000000 in
theorem FillV (c : UInt8) (size : Int) (hs : S W0 w F) :
    Calls Try.prog 12 #[.int .u8 (c.toNat : Int), .int .i64 size] w fun e w' => ∃ v, e = .returned v ∧ S W0 w' (F * bytesV v 5 (fillB c size)) := by
  have hn : ∃ n, n = fillN size := ⟨_, rfl⟩
  obtain ⟨n, hn⟩ := hn
  have hle := fillN_le size
  unfold fillB
  rw [← hn]
  have hsz : (size != 0) = false ∧ n = 64 ∨ (size != 0) = true ∧ ((n : Int) = min (max size 0) 100) := by
    unfold fillN at hn
    by_cases h : size = 0
    · left; simp [h] at hn ⊢; exact hn
    · right; simp [h] at hn ⊢; omega
  have hle' : n ≤ 100 := by omega
  clear hn hle
  rcases hsz with ⟨h1, rfl⟩ | ⟨h1, h2⟩
  · obtain ⟨n, hn⟩ : ∃ n : Nat, n = 64 := ⟨_, rfl⟩
    have hn' : n ≤ 100 := by omega
    have H64 : Hid ((64 : Int) = (n : Int)) := by show (64 : Int) = n; omega
    rw [← hn]
    clear hn
    go_enter Try.func12, Try.ntmps12
    go_wp2_with (at_make; refine wp_make_S TU8 rfl rfl n hs rfl rfl H64.out H64.out (by omega) (by omega) ?_; intro gb w1 hs1)
    rw [H64.out]
    clear H64
    have hrow : zeroRow (.int .u8 0) n 1 = (u8s (List.replicate 0 c ++ List.replicate (n - 0) 0)).toArray := by rw [zeroRow_one _ rfl n]; simp [u8s]
    have hs2 := hs1
    rw [hrow] at hs2
    clear hs1 hrow
    go_loopw [7] (fun i wr => ∃ k : Nat, k ≤ n ∧ i = .int .i64 k ∧ S W0 wr (F * blk gb (.cells (u8s (List.replicate k c ++ List.replicate (n - k) 0)).toArray 5 (0, 0)))) (fun i _ => n - (intOf i).toNat)
    case atStart => exact ⟨0, by omega, rfl, hs2⟩
    case round =>
      obtain ⟨k, hk, rfl, hk1⟩ := hrel
      have hh := S.heap hk1
      by_cases hlt : k < n
      · have hc1 : wr.cell? ⟨gb, k, none⟩ = some (.int .u8 0) := by
          rw [cell_at hh]
          simp [u8s, List.getElem?_append, List.getElem?_replicate, hlt]; omega
        have hf1 : wr.frozen? ⟨gb, k, none⟩ = false := free_at hh
        have hi0 : (0 : Int) ≤ k := by omega
        have hi1 : (k : Int) < n := by omega
        have hk2 := S.set (i := k) (v := .int .u8 (c.toNat : Int)) hk1
        rw [fill_set n k c hlt] at hk2
        clear hh hk1
        go_wp2
        go_roundw
        case rel => exact ⟨k + 1, by omega, by go_num, hk2⟩
        case measure => simp [intOf]; omega
      · have : k = n := by omega
        subst this
        go_wp2
        go_ret
        refine ⟨_, rfl, ?_⟩
        have hv := S.to_vec (spare := []) (m := k) (n := k) (k := 1) (cs := u8s (List.replicate k c)) (by simpa using hk1) (by simp [u8s]) (by simp) (Nat.le_refl _) (by simp only [maxLen]; omega)
        simpa [bytesV] using hv
  · have H2 := Lib.hid h2
    clear h2
    go_enter Try.func12, Try.ntmps12
    go_wp2_with (at_make; refine wp_make_S TU8 rfl rfl n hs rfl rfl H2.out.symm H2.out.symm (by omega) (by omega) ?_; intro gb w1 hs1)
    rw [← H2.out]
    clear H2
    have hrow : zeroRow (.int .u8 0) n 1 = (u8s (List.replicate 0 c ++ List.replicate (n - 0) 0)).toArray := by rw [zeroRow_one _ rfl n]; simp [u8s]
    have hs2 := hs1
    rw [hrow] at hs2
    clear hs1 hrow
    go_loopw [7] (fun i wr => ∃ k : Nat, k ≤ n ∧ i = .int .i64 k ∧ S W0 wr (F * blk gb (.cells (u8s (List.replicate k c ++ List.replicate (n - k) 0)).toArray 5 (0, 0)))) (fun i _ => n - (intOf i).toNat)
    case atStart => exact ⟨0, by omega, rfl, hs2⟩
    case round =>
      obtain ⟨k, hk, rfl, hk1⟩ := hrel
      have hh := S.heap hk1
      by_cases hlt : k < n
      · have hc1 : wr.cell? ⟨gb, k, none⟩ = some (.int .u8 0) := by
          rw [cell_at hh]
          simp [u8s, List.getElem?_append, List.getElem?_replicate, hlt]; omega
        have hf1 : wr.frozen? ⟨gb, k, none⟩ = false := free_at hh
        have hi0 : (0 : Int) ≤ k := by omega
        have hi1 : (k : Int) < n := by omega
        have hk2 := S.set (i := k) (v := .int .u8 (c.toNat : Int)) hk1
        rw [fill_set n k c hlt] at hk2
        clear hh hk1
        go_wp2
        go_roundw
        case rel => exact ⟨k + 1, by omega, by go_num, hk2⟩
        case measure => simp [intOf]; omega
      · have : k = n := by omega
        subst this
        go_wp2
        go_ret
        refine ⟨_, rfl, ?_⟩
        have hv := S.to_vec (spare := []) (m := k) (n := k) (k := 1) (cs := u8s (List.replicate k c)) (by simpa using hk1) (by simp [u8s]) (by simp) (Nat.le_refl _) (by simp only [maxLen]; omega)
        simpa [bytesV] using hv
end
end Go.Proofs.Ytnkjkkbjplneeaa
