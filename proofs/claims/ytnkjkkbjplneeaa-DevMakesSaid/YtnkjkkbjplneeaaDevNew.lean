/-
  What New makes.
-/
import Derived.Test.YtnkjkkbjplneeaaFill
import Derived.Test.YtnkjkkbjplneeaaDev3
namespace Go.Proofs.Ytnkjkkbjplneeaa
open Go.RowKit Go.SL
set_option maxRecDepth 100000
set_option linter.unusedSimpArgs false
set_option linter.unusedVariables false
def secNew : Sec := ⟨List.replicate 64 0, [], false⟩
def DevA.new (n : Nat) : DevA := ⟨List.replicate n secNew, 0, 0⟩
def newE (n : Int) : Int := if n < 0 ∨ 4096 < n then 1 else 0
theorem new_ok (n : Nat) (h : n ≤ 4096) : (DevA.new n).Ok := ⟨by simp [DevA.new], by simp [DevA.new], by simpa [DevA.new] using h, fun s hs => by
  rw [DevA.new, List.mem_replicate] at hs
  rw [hs.2]
  exact ⟨by simp [secNew], by simp [secNew]⟩⟩
/-- A device in the making: some of its sectors are made. -/
def makingO (pw n fb lm rm b : Nat) (fvs : List Value) : HProp :=
  stars (fvs.map fun v => bytesV v 5 (List.replicate 64 0)) * blk lm (.map #[] 0) * blk rm (.map #[] 0) * blk fb (.cells (fvs ++ List.replicate (n - fvs.length) (Value.slice none 0 0)).toArray 44 (0, 0)) *
    blk b (.cells #[.pointer (some ⟨pw, 0, none⟩), .slice (some ⟨fb, 0, none⟩) n n, .map (some lm), .map (some rm), .int .u64 0, .int .u64 0] 73 (0, 0))
section
variable {W0 w : World} {F : HProp} {pw n fb lm rm b : Nat} {fvs : List Value}
theorem makingO.parts (h : S W0 w (F * makingO pw n fb lm rm b fvs)) : S W0 w (F * stars (fvs.map fun v => bytesV v 5 (List.replicate 64 0)) * blk lm (.map #[] 0) * blk rm (.map #[] 0) * blk fb (.cells (fvs ++ List.replicate (n - fvs.length) (Value.slice none 0 0)).toArray 44 (0, 0)) *
    blk b (.cells #[.pointer (some ⟨pw, 0, none⟩), .slice (some ⟨fb, 0, none⟩) n n, .map (some lm), .map (some rm), .int .u64 0, .int .u64 0] 73 (0, 0))) := by
  unfold makingO at h; exact h.perm
theorem makingO.of_parts (h : S W0 w (F * stars (fvs.map fun v => bytesV v 5 (List.replicate 64 0)) * blk lm (.map #[] 0) * blk rm (.map #[] 0) * blk fb (.cells (fvs ++ List.replicate (n - fvs.length) (Value.slice none 0 0)).toArray 44 (0, 0)) *
    blk b (.cells #[.pointer (some ⟨pw, 0, none⟩), .slice (some ⟨fb, 0, none⟩) n n, .map (some lm), .map (some rm), .int .u64 0, .int .u64 0] 73 (0, 0)))) : S W0 w (F * makingO pw n fb lm rm b fvs) := by
  unfold makingO; exact h.perm
theorem makingO.done (hn : n ≤ 4096) (hl : fvs.length = n) (h : S W0 w (F * makingO pw n fb lm rm b fvs)) : S W0 w (F * devO b pw (.new n)) := by
  have h1 := makingO.parts h
  rw [hl, Nat.sub_self, List.replicate_zero, List.append_nil] at h1
  have h2 := (h1.p2.to_map (MapOk.empty .i64 0))
  have h3 := (h2.p3.to_map (MapOk.empty .i64 0))
  have hst : fvs.map (fun v => bytesV v 5 (List.replicate 64 0)) = secsL fvs (List.replicate n none) (List.replicate n secNew) := by
    apply List.ext_getElem?
    intro j
    simp only [secsL, List.getElem?_map, List.getElem?_zipWith, List.zip, List.getElem?_replicate]
    by_cases hj : j < n
    · simp only [hj, if_true]
      cases e : fvs[j]? with
      | none => rfl
      | some v => simp [secO, looseO, secNew, pr_true, star_emp]
    · have : fvs[j]? = none := by rw [List.getElem?_eq_none_iff]; omega
      simp [hj, this]
  rw [hst] at h3
  refine devO.shut (g := ⟨fb, lm, rm, fvs, List.replicate n none, [], []⟩) (devG.of_top ?_) ⟨by simp [DevA.new, hl], by simp [DevA.new], fun k => ?_, fun k => ?_, new_ok n hn⟩
  · have e : devCells pw (DevA.new n) ⟨fb, lm, rm, fvs, List.replicate n none, [], []⟩ = #[.pointer (some ⟨pw, 0, none⟩), .slice (some ⟨fb, 0, none⟩) n n, .map (some lm), .map (some rm), .int .u64 0, .int .u64 0] := by simp [devCells, DevA.new]
    rw [e]
    have h4 : S W0 w (F * stars (secsL fvs (List.replicate n none) (List.replicate n secNew)) * mapB .i64 rm [] * mapB .i64 lm [] * blk fb (.cells fvs.toArray 44 (0, 0)) * blk b (.cells #[.pointer (some ⟨pw, 0, none⟩), .slice (some ⟨fb, 0, none⟩) n n, .map (some lm), .map (some rm), .int .u64 0, .int .u64 0] 73 (0, 0))) := h3.perm
    exact h4
  · simp only [List.lookup_nil, List.getElem?_replicate]
    split
    · split <;> rfl
    · rfl
  · have : ¬ ((0 : Int) ≤ k ∧ (((DevA.new n).secs[k.toNat]?).map (·.rotten)) = some true) := by
      rintro ⟨_, hh⟩
      simp only [DevA.new, List.getElem?_replicate] at hh
      split at hh <;> simp [secNew] at hh
    simp only [List.lookup_nil]
    rw [if_neg this]
end
theorem making_set (fvs : List Value) (n : Nat) (v : Value) (h : fvs.length < n) :
    (fvs ++ List.replicate (n - fvs.length) (Value.slice none 0 0)).toArray.setIfInBounds fvs.length v = ((fvs ++ [v]) ++ List.replicate (n - (fvs ++ [v]).length) (Value.slice none 0 0)).toArray := by
  apply Array.ext'
  obtain ⟨d, hd⟩ : ∃ d, n - fvs.length = d + 1 := ⟨n - fvs.length - 1, by omega⟩
  have hd' : n - (fvs ++ [v]).length = d := by simp; omega
  rw [hd, hd', List.replicate_succ]
  simp
section
variable (W0 w : World) (F : HProp) (pw : Nat)
set_option maxHeartbeats 1000000 in
theorem DevNew (n : Nat) (hn : n ≤ 4096) (p : PowA) (hs : S W0 w (F * powO pw p)) :
    Calls Try.prog 24 #[.int .i64 (n : Int), .pointer (some ⟨pw, 0, none⟩)] w fun e w' => ∃ b, e = .returned (.tuple #[.pointer (some ⟨b, 0, none⟩), .int .i64 0]) ∧ S W0 w' (F * powO pw p * devO b pw (.new n)) := by
  have hreal := PowReal W0 w F pw p hs
  have h1 : ¬ ((n : Int) < 0) := by omega
  have h2 : ¬ (4096 < (n : Int)) := by omega
  have hmm := @run_makeMap Try.prog
  go_enter Try.func24, Try.ntmps24
  go_wp2_with (first | (go_at_call 31; refine (hreal).mono ?_; rintro e w' ⟨rfl, rfl⟩) | (at_make; refine wp_make_S TRows rfl rfl n hs rfl rfl rfl rfl (by omega) (by omega) ?_; intro gb w1 hs1))
  have hs2 := ((hs1.alloc (.map #[] 0)).alloc (.map #[] 0)).alloc (.cells #[.pointer (some ⟨pw, 0, none⟩), .slice (some ⟨gb, 0, none⟩) n n, .map (some w1.heap.size), .map (some (w1.heap.size + 1)), .int .u64 0, .int .u64 0] 73)
  have hsz : ∀ (w : World) (o : Obj), (w.alloc o).heap.size = w.heap.size + 1 := fun _ _ => by simp
  simp only [hsz] at hs2
  have hs3 := S.to (B := F * powO pw p * makingO pw n gb w1.heap.size (w1.heap.size + 1) (w1.heap.size + 1 + 1) []) hs2 (by
    unfold makingO
    have e : (([] : List Value) ++ List.replicate (n - ([] : List Value).length) (Value.slice none 0 0)).toArray = zeroRow (.slice none 0 0) n 1 := by rw [zeroRow_one _ rfl n]; simp
    rw [e]
    simp only [List.map_nil, stars, emp_star]
    ac_rfl)
  generalize w1.heap.size + 1 + 1 = b at hs3 ⊢
  generalize w1.heap.size + 1 = rm at hs3 ⊢
  generalize w1.heap.size = lm at hs3 ⊢
  clear hs1 hs2 hsz
  go_loopw [29] (fun i wr => ∃ fvs : List Value, fvs.length ≤ n ∧ i = .int .i64 fvs.length ∧ S W0 wr (F * powO pw p * makingO pw n gb lm rm b fvs)) (fun i _ => n - (intOf i).toNat)
  case atStart => exact ⟨[], by simp, rfl, hs3⟩
  case round =>
    obtain ⟨fvs, hk, rfl, hk1⟩ := hrel
    by_cases hlt : fvs.length < n
    · have hp := makingO.parts hk1
      have c1 : wr.cell? ⟨b, 1, none⟩ = some (.slice (some ⟨gb, 0, none⟩) n n) := cell_at hp.heap
      generalize hm : fvs.length = m at *
      have hi0 : (0 : Int) ≤ m := by omega
      have hi1 : (m : Int) < n := by omega
      have HM := Lib.hid hm
      clear hm
      go_wp2
      refine wp_region_S [(7, fun w => w.cell? ⟨b, 1, none⟩ = some (.slice (some ⟨gb, 0, none⟩) n n))] rfl ?_ ?_
      · simp only [List.mem_cons, List.not_mem_nil, or_false, forall_eq]
        exact c1
      refine WS.takeP (i := 0) (v := ?_) rfl (by kernel_rfl) (by kernel_rfl) (by kernel_rfl) rfl (fun _ _ _ h => h) (by rfl) (fun w1 => ?_) ?_
      rotate_left 1
      · go_simp; try with_reducible rfl
      try simp only [Act.put, List.setIfInBounds_toArray, List.set_cons_zero, List.set_cons_succ]
      refine WS.takeP (i := 1) (v := ?_) rfl (by kernel_rfl) (by kernel_rfl) (by kernel_rfl) rfl (fun _ _ _ h => h) (by rfl) (fun w1 => ?_) ?_
      rotate_left 1
      · go_simp; try with_reducible rfl
      try simp only [Act.put, List.setIfInBounds_toArray, List.set_cons_zero, List.set_cons_succ]
      refine WS.takeP (i := 2) (v := ?_) rfl (by kernel_rfl) (by kernel_rfl) (by kernel_rfl) rfl (fun _ _ _ h => h) (by rfl) (fun w1 => ?_) ?_
      rotate_left 1
      · go_simp; try with_reducible rfl
      try simp only [Act.put, List.setIfInBounds_toArray, List.set_cons_zero, List.set_cons_succ]
      refine WS.takeR (i := 3) (v := ?_) (7) _ (by first | exact .head _ | exact .tail _ (.head _) | exact .tail _ (.tail _ (.head _))) rfl (by kernel_rfl) (by kernel_rfl) (by kernel_rfl) rfl (by kernel_rfl) rfl (fun _ _ _ h => h) (by rfl) (fun w1 hR => ?_) ?_
      rotate_left 1
      · (skip); go_simp; try with_reducible rfl
      try simp only [Act.put, List.setIfInBounds_toArray, List.set_cons_zero, List.set_cons_succ]
      refine WS.takeP (i := 4) (v := ?_) rfl (by kernel_rfl) (by kernel_rfl) (by kernel_rfl) rfl (fun _ _ _ h => h) (by rfl) (fun w1 => ?_) ?_
      rotate_left 1
      · go_simp; try with_reducible rfl
      try simp only [Act.put, List.setIfInBounds_toArray, List.set_cons_zero, List.set_cons_succ]
      refine WS.one (i := 5) rfl (by kernel_rfl) (by rfl) (fun K hK => ?_)
      have h64 : ((64 : Nat) : Int) = 64 := by omega
      refine wp_make_K TU8 rfl 64 hp.drew rfl rfl h64.symm h64.symm (by omega) (by omega) ?_
      intro gn w5 hs4
      simp only [Act.put, List.setIfInBounds_toArray, List.set_cons_zero, List.set_cons_succ]
      refine hK _ _ (fun q hq _ => ?_) ?_
      · simp only [List.mem_cons, List.not_mem_nil, or_false] at hq
        subst hq
        exact cell_at hs4.p1.heap
      refine WS.takeP (i := 6) (v := ?_) rfl (by kernel_rfl) (by kernel_rfl) (by kernel_rfl) rfl (fun _ _ _ h => h) (by rfl) (fun w1 => ?_) ?_
      rotate_left 1
      · go_simp; try with_reducible rfl
      try simp only [Act.put, List.setIfInBounds_toArray, List.set_cons_zero, List.set_cons_succ]
      have cs : w5.cell? ⟨gb, m, none⟩ = some (.slice none 0 0) := by
        rw [cell_at hs4.p2.heap, ← HM.out]
        have : ¬ n - fvs.length = 0 := by have := HM.out; omega
        simp [List.getElem?_append, List.getElem?_replicate, this]
      have cf : w5.frozen? ⟨gb, m, none⟩ = false := free_at hs4.p2.heap
      have hs5 := S.set (i := m) (v := .slice (some ⟨gn, 0, none⟩) 64 64) hs4.p2
      refine WS.one (i := 7) rfl (by kernel_rfl) (by rfl) (fun K hK => ?_)
      go_simp
      refine hK _ _ (fun q hq hq2 => ?_) ?_
      · simp only [List.mem_cons, List.not_mem_nil, or_false] at hq
        subst hq
        revert hq2
        simp
      refine WS.done (by kernel_rfl) ?_
      have hs6 := S.to_vec (T := 5) (k := 1) (n := 64) (m := 64) (cs := u8s (List.replicate 64 0)) (spare := []) (S.to hs5.p1 (by rw [zeroRow_one _ rfl 64]; rfl)) (by simp [u8s]) (by simp) (Nat.le_refl _) (by simp [maxLen])
      have hs7 : S W0 _ (F * powO pw p * makingO pw n gb lm rm b (fvs ++ [.slice (some ⟨gn, 0, none⟩) 64 64])) := S.to hs6 (by
        unfold makingO
        obtain rfl : fvs.length = m := HM.out
        rw [making_set fvs n _ (by omega), List.map_append, List.map_cons, List.map_nil, stars_snoc]
        simp only [bytesV, List.length_replicate]
        ac_rfl)
      have hl2 : (fvs ++ [Value.slice (some ⟨gn, 0, none⟩) 64 64]).length = m + 1 := by simp; exact HM.out
      clear hs6 hs5 hs4 hp HM
      go_wp2
      go_roundw
      case rel => exact ⟨_, by omega, by rw [hl2]; go_num, hs7⟩
      case measure => simp [intOf]; omega
    · go_wp2
      go_ret2
      exact ⟨_, rfl, makingO.done hn (by omega) hk1⟩
end
end Go.Proofs.Ytnkjkkbjplneeaa
