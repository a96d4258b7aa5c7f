/-
  What Crash does.
-/
import Derived.Test.YtnkjkkbjplneeaaDevCrashA
import Derived.Test.YtnkjkkbjplneeaaDevNew
import Derived.Test.YtnkjkkbjplneeaaSLReads
namespace Go.Proofs.Ytnkjkkbjplneeaa
open Go.RowKit Go.SL
set_option maxRecDepth 100000
set_option linter.unusedSimpArgs false
set_option linter.unusedVariables false
theorem vec_shape {W0 w : World} {F : HProp} {T k : Nat} {v : Value} {n : Nat} {cs : List Value} (h : S W0 w (F * vecB T k v n cs)) : ∃ ad m, v = .slice ad n m := by
  rcases S.vec h with ⟨rfl, rfl, _⟩ | ⟨_, _, _, rfl, _⟩
  · exact ⟨_, _, rfl⟩
  · exact ⟨_, _, rfl⟩
theorem reads_shape {w : World} {k : Nat} {v : Value} {n : Nat} {cs : List Value} (h : Reads w k v n cs) : ∃ ad m, v = .slice ad n m := by
  rcases h.2 with ⟨rfl, rfl⟩ | ⟨_, _, _, rfl, _⟩
  · exact ⟨_, _, rfl⟩
  · exact ⟨_, _, rfl⟩
theorem reads_addr {w : World} {k : Nat} {ad : Option Addr} {m : Nat} {n : Nat} {cs : List Value} (h : Reads w k (.slice ad n m) n cs) (hn : 0 < n) : ∃ b o, ad = some ⟨b, o, none⟩ := by
  rcases h.2 with ⟨h1, rfl⟩ | ⟨b, o, c, h1, _⟩
  · omega
  · cases h1; exact ⟨_, _, rfl⟩
theorem reads_len {w : World} {k : Nat} {v : Value} {n : Nat} {cs : List Value} (h : Reads w k v n cs) : n ≤ maxLen := by
  rcases h.2 with ⟨rfl, rfl⟩ | ⟨b, o, c, rfl, h1, h2, _⟩
  · simp [maxLen]
  · omega
/-- A device whose map of rotten sectors is being gone through. -/
def rotDev (b pw : Nat) (D : DevA) (g : DevG) (it : Nat) (done : List (Int × Value)) : HProp :=
  stars (secsL g.fvs g.lvs D.secs) * rangeO .i64 it g.rm g.kvr done * mapB .i64 g.lm g.kv * blk g.fb (.cells g.fvs.toArray 44 (0, 0)) * blk b (.cells (devCells pw D g) 73 (0, 0))
theorem rotDev.parts {W0 w : World} {F : HProp} {b pw : Nat} {D : DevA} {g : DevG} {it : Nat} {done : List (Int × Value)} (h : S W0 w (F * rotDev b pw D g it done)) :
    S W0 w (F * stars (secsL g.fvs g.lvs D.secs) * mapB .i64 g.lm g.kv * blk g.fb (.cells g.fvs.toArray 44 (0, 0)) * blk b (.cells (devCells pw D g) 73 (0, 0)) * rangeO .i64 it g.rm g.kvr done) := by unfold rotDev at h; exact h.perm
theorem rotDev.of_parts {W0 w : World} {F : HProp} {b pw : Nat} {D : DevA} {g : DevG} {it : Nat} {done : List (Int × Value)}
    (h : S W0 w (F * stars (secsL g.fvs g.lvs D.secs) * mapB .i64 g.lm g.kv * blk g.fb (.cells g.fvs.toArray 44 (0, 0)) * blk b (.cells (devCells pw D g) 73 (0, 0)) * rangeO .i64 it g.rm g.kvr done)) : S W0 w (F * rotDev b pw D g it done) := by unfold rotDev; exact h.perm
theorem rotDev.shut {W0 w : World} {F : HProp} {b pw : Nat} {D : DevA} {g : DevG} {it : Nat} {done : List (Int × Value)} (h : S W0 w (F * rotDev b pw D g it done)) (ho : g.Ok D) : S W0 w (F * devO b pw D) := by
  refine devO.shut (devG.of_top ?_) ho
  exact (rotDev.parts h).range_map.perm
section
variable (W0 w : World) (F : HProp) (b pw pw2 : Nat) (D : DevA) (p2 : PowA) (fates : List Int)
set_option maxHeartbeats 2000000 in
theorem DevCrash (hD : D.looseL.length ≤ 12) (fv : Value) (hr : ∀ w, S W0 w F → ReadsW w 1 fv fates.length (i64s fates)) (hs : S W0 w (F * devO b pw D * powO pw2 p2)) :
    Calls Try.prog 16 #[.pointer (some ⟨b, 0, none⟩), .pointer (some ⟨pw2, 0, none⟩), fv] w fun e w' =>
      (D.crashE fates ≠ 0 ∧ e = .returned (.tuple #[.pointer none, .int .i64 (D.crashE fates)]) ∧ S W0 w' (F * devO b pw D * powO pw2 p2)) ∨
      (D.crashE fates = 0 ∧ ∃ x, e = .returned (.tuple #[.pointer (some ⟨x, 0, none⟩), .int .i64 0]) ∧ S W0 w' (F * devO b pw D * powO pw2 p2 * devO x pw2 (D.crashD fates))) := by
  have hreal := DevReal W0 w (F * powO pw2 p2) b pw D hs.perm
  have hpreal := PowReal W0 w (F * devO b pw D) pw2 p2 hs
  obtain ⟨g, ho, hsg⟩ := devO.open hs.p1
  have hsec : D.secs.length ≤ 4096 := ho.2.2.2.2.2.2.1
  have hfix : ∀ s ∈ D.secs, s.Ok := ho.2.2.2.2.2.2.2
  clear ho hsg g
  have hloose := DevLoose W0 w (F * powO pw2 p2) b pw D hD (by omega) hs.perm
  obtain ⟨ad, m, rfl⟩ := (hr w hs.left.left).shape
  have hmax := (hr w hs.left.left).2.1
  have HF := Lib.hid hfix
  have HR := Lib.hid hr
  clear hs hfix hr
  generalize hnf : fates.length = nf at *
  have HNF := Lib.hid hnf
  clear hnf
  go_enter Try.func16, Try.ntmps16
  go_wp2_with (first | (go_at_call 45; refine (hreal).mono ?_; rintro e w' ⟨rfl, rfl⟩) | (go_at_call 31; refine (hpreal).mono ?_; rintro e w' ⟨rfl, rfl⟩))
  refine hloose.mono ?_
  rintro e w1 ⟨v, rfl, hs1⟩
  obtain ⟨la, lm, rfl⟩ := vec_shape hs1
  clear hreal hpreal hloose
  generalize hnl : D.looseL.length = nl at *
  have HNL := Lib.hid hnl
  clear hnl
  by_cases hlong : nl < nf
  · have h1 : (nl : Int) < nf := by omega
    go_wp2
    go_ret2
    have e : D.crashE fates = 7 := by unfold DevA.crashE; rw [if_pos (by rw [HNL.out, HNF.out]; exact hlong)]
    rw [e]
    exact .inl ⟨by decide, rfl, hs1.left.perm⟩
  have h1 : ¬ (nl : Int) < nf := by omega
  go_wp2
  go_loopw [35] (fun vi wr => ∃ i : Nat, vi = .int .i64 i ∧ i ≤ nf ∧ S W0 wr (F * powO pw2 p2 * devO b pw D * vecB 86 2 (.slice la nl lm) nl (flatL D.looseL)) ∧ D.fateOk fates i = true) (fun vi _ => nf - (intOf vi).toNat)
  case atStart => exact ⟨0, rfl, by omega, hs1, rfl⟩
  case round =>
    clear hs1
    obtain ⟨i, rfl, hi, hs1, hok⟩ := hrel
    have HOK := Lib.hid hok
    clear hok
    by_cases hlt : i < nf
    · have hrd := HR.out _ hs1.left.left.left
      obtain ⟨fb, fo, rfl⟩ := hrd.addr (by omega)
      obtain ⟨k, hk⟩ : ∃ k, fates[i]? = some k := ⟨fates[i]'(by rw [HNF.out]; exact hlt), by simp [HNF.out, hlt]⟩
      obtain ⟨x, hx⟩ : ∃ x, D.looseL[i]? = some x := ⟨D.looseL[i]'(by rw [HNL.out]; omega), by simp [show i < D.looseL.length by rw [HNL.out]; omega]⟩
      have cf := hrd.cell (j := i) (u := .int .i64 k) (by simp [i64s, hk])
      have hrl := hs1.reads
      obtain ⟨lb, lo, rfl⟩ := reads_addr hrl (by omega)
      obtain ⟨hlx, rfl⟩ := List.getElem?_eq_some_iff.1 hx
      obtain ⟨g1, g2⟩ := flatL_get D.looseL i hlx
      have cl := hrl.cell (j := i * 2 + 1) g2
      have hat : D.fateAt fates i = (decide (0 ≤ k) && decide (k ≤ D.looseL[i].2)) := by simp [DevA.fateAt, hk, hx]
      generalize D.looseL[i] = x at *
      have i0 : (0 : Int) ≤ i := by omega
      have i1 : (i : Int) < nf := by omega
      have i2 : (i : Int) < nl := by omega
      have HAT := Lib.hid hat
      rw [show lo + (i * 2 + 1) = lo + i * 2 + 1 by omega] at cl
      clear hrd hrl g1 g2 hx hk hat hlx
      by_cases hk0 : k < 0
      · have hk1 := decide_eq_true hk0
        go_wp2
        go_ret2
        have e : D.crashE fates = 3 := by
          unfold DevA.crashE
          rw [if_neg (by rw [HNL.out, HNF.out]; exact hlong), DevA.fateOk_not (j := i) (by rw [HAT.out]; simp; omega) (by rw [HNF.out]; exact hlt)]
          rfl
        rw [e]
        exact .inl ⟨by decide, rfl, hs1.left.perm⟩
      by_cases hk1 : x.2 < k
      · go_wp2
        go_ret2
        have e : D.crashE fates = 3 := by
          unfold DevA.crashE
          rw [if_neg (by rw [HNL.out, HNF.out]; exact hlong), DevA.fateOk_not (j := i) (by rw [HAT.out]; simp; omega) (by rw [HNF.out]; exact hlt)]
          rfl
        rw [e]
        exact .inl ⟨by decide, rfl, hs1.left.perm⟩
      have hok2 : D.fateOk fates (i + 1) = true := by rw [DevA.fateOk_succ, HOK.out, HAT.out]; simp; omega
      go_wp2
      go_roundw
      case rel => exact ⟨i + 1, by go_num, by omega, hs1, hok2⟩
      case measure => simp [intOf]; omega
    · have hinf : nf = i := by omega
      subst hinf
      have hE : D.crashE fates = 0 := by
        unfold DevA.crashE
        rw [if_neg (by rw [HNL.out, HNF.out]; exact hlong), HNF.out, HOK.out]
        rfl
      obtain ⟨g, ho, hsg⟩ := devO.open hs1.p1
      obtain ⟨c0, c1, c2, c3, c4, c5, fr⟩ := devG.cells hsg
      clear ho hsg c2 c3 c4 c5 fr
      have hnew := DevNew W0 wr (F * devO b pw D * vecB 86 2 (.slice la nl lm) nl (flatL D.looseL)) pw2 D.secs.length hsec p2 hs1.perm
      clear hi hs1
      go_wp2_with fail
      refine hnew.mono ?_
      rintro e w' ⟨x, rfl, hs2⟩
      have hs3 : S W0 w' (F * vecB 86 2 (.slice la nl lm) nl (flatL D.looseL) * powO pw2 p2 * devO b pw D * devO x pw2 ⟨List.replicate D.secs.length ⟨List.replicate 64 0, [], false⟩, 0, 0⟩) := hs2.perm
      obtain ⟨g2, ho2, hsg2⟩ := devO.open hs3.p1
      obtain ⟨c0', c1', _⟩ := devG.cells hsg2
      clear hs2 hnew c0 c1 c0' ho2 hsg2
      generalize hns : D.secs.length = ns at *
      have HNS := Lib.hid hns
      go_wp2
      clear c1'
      go_loopw [70] (fun vi wr => ∃ (i : Nat) (X : List Sec), vi = .int .i64 i ∧ i ≤ ns ∧ X.length = ns ∧ (∀ j s, D.secs[j]? = some s → X[j]? = some (if j < i then ⟨s.fixed, [], false⟩ else ⟨List.replicate 64 0, [], false⟩)) ∧
        S W0 wr (F * vecB 86 2 (.slice la nl lm) nl (flatL D.looseL) * powO pw2 p2 * devO b pw D * devO x pw2 ⟨X, 0, 0⟩)) (fun vi _ => ns - (intOf vi).toNat)
      case atStart => exact ⟨0, _, rfl, by omega, by simp, fun j s hj => by have := (List.getElem?_eq_some_iff.1 hj).1; simp [List.getElem?_replicate, show j < ns by omega], hs3⟩
      case round =>
        clear hs3
        obtain ⟨i, X, rfl, hi, hXl, hX, hs3⟩ := hrel
        by_cases hlt : i < ns
        · obtain ⟨s, hsi⟩ : ∃ s, D.secs[i]? = some s := ⟨D.secs[i]'(by omega), by simp [show i < D.secs.length by omega]⟩
          have hXi := hX i s hsi
          rw [if_neg (by omega)] at hXi
          have hsok := HF.out s (List.mem_of_getElem? hsi)
          obtain ⟨fb, fv, R, k1, k2, hs4, hw⟩ := devO.fixedOpen hs3 hXi
          obtain ⟨fb2, fv2, k3, k4, hrd⟩ := devO.fixedRead hs3.p1 hsi
          have HX := Lib.hid hX
          unfold bytesV at hs4
          obtain ⟨w5, hcopy, hs5⟩ := run_copy_S (P := Try.prog) TU8 44 3 hs4.drew (x := fv2) (m := s.fixed.length) (ys := u8s s.fixed) (hrd.mono fun p u h => h) (by simp [u8s, Value.oneCell'])
          have hs6 := hw w5 (F * vecB 86 2 (.slice la nl lm) nl (flatL D.looseL) * powO pw2 p2 * devO b pw D) s.fixed hsok.1 (by
            unfold bytesV
            have e : (u8s s.fixed).take (min s.fixed.length 64 * 1) ++ (u8s (List.replicate 64 (0 : UInt8))).drop (min s.fixed.length 64 * 1) = u8s s.fixed := by
              rw [hsok.1, List.take_of_length_le (by simp [u8s, hsok.1]), List.drop_of_length_le (by simp [u8s])]; simp
            simp only [List.length_replicate] at hs5
            rw [e] at hs5
            rw [hsok.1]
            exact hs5)
          have HS6 := Lib.hid hs6
          have HI := Lib.hid (⟨hsi, hXl⟩ : _ ∧ _)
          have i0 : (0 : Int) ≤ i := by omega
          have i1 : (i : Int) < ns := by omega
          simp only [hXl] at k1
          rw [HNS.out] at k3
          clear hw hs5 hs6 hs4 hrd hX hXi hsok hs3 hsi
          go_wp2
          refine wp_region_S [(14, fun w => w.cell? ⟨x, 1, none⟩ = some (.slice (some ⟨fb, 0, none⟩) ns ns) ∧ w.cell? ⟨fb, i, none⟩ = some fv ∧ w.cell? ⟨b, 1, none⟩ = some (.slice (some ⟨fb2, 0, none⟩) ns ns) ∧ w.cell? ⟨fb2, i, none⟩ = some fv2)] rfl ?_ ?_
          · simp only [List.mem_cons, List.not_mem_nil, or_false, forall_eq]
            exact ⟨k1, k2, k3, k4⟩
          refine WS.takeP (i := 0) (v := ?_) rfl (by kernel_rfl) (by kernel_rfl) (by kernel_rfl) rfl (fun _ _ _ h => h) (by rfl) (fun w1 => ?_) ?_
          rotate_left 1
          · go_simp; try with_reducible rfl
          try simp only [Act.put, List.setIfInBounds_toArray, List.set_cons_zero, List.set_cons_succ]
          refine WS.takeP (i := 1) (v := ?_) rfl (by kernel_rfl) (by kernel_rfl) (by kernel_rfl) rfl (fun _ _ _ h => h) (by rfl) (fun w1 => ?_) ?_
          rotate_left 1
          · go_simp; try with_reducible rfl
          try simp only [Act.put, List.setIfInBounds_toArray, List.set_cons_zero, List.set_cons_succ]
          refine WS.takeP (i := 2) (v := ?_) rfl (by kernel_rfl) (by kernel_rfl) (by kernel_rfl) rfl (fun _ _ _ h => h) (by rfl) (fun w1 => ?_) ?_
          rotate_left 1
          · go_simp; try with_reducible rfl
          try simp only [Act.put, List.setIfInBounds_toArray, List.set_cons_zero, List.set_cons_succ]
          refine WS.takeR (i := 3) (v := ?_) (14) _ (by first | exact .head _ | exact .tail _ (.head _) | exact .tail _ (.tail _ (.head _))) rfl (by kernel_rfl) (by kernel_rfl) (by kernel_rfl) rfl (by kernel_rfl) rfl (fun _ _ _ h => h) (by rfl) (fun w1 hR => ?_) ?_
          rotate_left 1
          · (obtain ⟨r1, r2, r3, r4⟩ := hR); go_simp; try with_reducible rfl
          try simp only [Act.put, List.setIfInBounds_toArray, List.set_cons_zero, List.set_cons_succ]
          refine WS.takeP (i := 4) (v := ?_) rfl (by kernel_rfl) (by kernel_rfl) (by kernel_rfl) rfl (fun _ _ _ h => h) (by rfl) (fun w1 => ?_) ?_
          rotate_left 1
          · go_simp; try with_reducible rfl
          try simp only [Act.put, List.setIfInBounds_toArray, List.set_cons_zero, List.set_cons_succ]
          refine WS.takeP (i := 5) (v := ?_) rfl (by kernel_rfl) (by kernel_rfl) (by kernel_rfl) rfl (fun _ _ _ h => h) (by rfl) (fun w1 => ?_) ?_
          rotate_left 1
          · go_simp; try with_reducible rfl
          try simp only [Act.put, List.setIfInBounds_toArray, List.set_cons_zero, List.set_cons_succ]
          refine WS.takeR (i := 6) (v := ?_) (14) _ (by first | exact .head _ | exact .tail _ (.head _) | exact .tail _ (.tail _ (.head _))) rfl (by kernel_rfl) (by kernel_rfl) (by kernel_rfl) rfl (by kernel_rfl) rfl (fun _ _ _ h => h) (by rfl) (fun w1 hR => ?_) ?_
          rotate_left 1
          · (obtain ⟨r1, r2, r3, r4⟩ := hR); go_simp; try with_reducible rfl
          try simp only [Act.put, List.setIfInBounds_toArray, List.set_cons_zero, List.set_cons_succ]
          refine WS.takeP (i := 7) (v := ?_) rfl (by kernel_rfl) (by kernel_rfl) (by kernel_rfl) rfl (fun _ _ _ h => h) (by rfl) (fun w1 => ?_) ?_
          rotate_left 1
          · go_simp; try with_reducible rfl
          try simp only [Act.put, List.setIfInBounds_toArray, List.set_cons_zero, List.set_cons_succ]
          refine WS.takeP (i := 8) (v := ?_) rfl (by kernel_rfl) (by kernel_rfl) (by kernel_rfl) rfl (fun _ _ _ h => h) (by rfl) (fun w1 => ?_) ?_
          rotate_left 1
          · go_simp; try with_reducible rfl
          try simp only [Act.put, List.setIfInBounds_toArray, List.set_cons_zero, List.set_cons_succ]
          refine WS.takeP (i := 9) (v := ?_) rfl (by kernel_rfl) (by kernel_rfl) (by kernel_rfl) rfl (fun _ _ _ h => h) (by rfl) (fun w1 => ?_) ?_
          rotate_left 1
          · go_simp; try with_reducible rfl
          try simp only [Act.put, List.setIfInBounds_toArray, List.set_cons_zero, List.set_cons_succ]
          refine WS.takeR (i := 10) (v := ?_) (14) _ (by first | exact .head _ | exact .tail _ (.head _) | exact .tail _ (.tail _ (.head _))) rfl (by kernel_rfl) (by kernel_rfl) (by kernel_rfl) rfl (by kernel_rfl) rfl (fun _ _ _ h => h) (by rfl) (fun w1 hR => ?_) ?_
          rotate_left 1
          · (obtain ⟨r1, r2, r3, r4⟩ := hR); go_simp; try with_reducible rfl
          try simp only [Act.put, List.setIfInBounds_toArray, List.set_cons_zero, List.set_cons_succ]
          refine WS.takeP (i := 11) (v := ?_) rfl (by kernel_rfl) (by kernel_rfl) (by kernel_rfl) rfl (fun _ _ _ h => h) (by rfl) (fun w1 => ?_) ?_
          rotate_left 1
          · go_simp; try with_reducible rfl
          try simp only [Act.put, List.setIfInBounds_toArray, List.set_cons_zero, List.set_cons_succ]
          refine WS.takeP (i := 12) (v := ?_) rfl (by kernel_rfl) (by kernel_rfl) (by kernel_rfl) rfl (fun _ _ _ h => h) (by rfl) (fun w1 => ?_) ?_
          rotate_left 1
          · go_simp; try with_reducible rfl
          try simp only [Act.put, List.setIfInBounds_toArray, List.set_cons_zero, List.set_cons_succ]
          refine WS.takeR (i := 13) (v := ?_) (14) _ (by first | exact .head _ | exact .tail _ (.head _) | exact .tail _ (.tail _ (.head _))) rfl (by kernel_rfl) (by kernel_rfl) (by kernel_rfl) rfl (by kernel_rfl) rfl (fun _ _ _ h => h) (by rfl) (fun w1 hR => ?_) ?_
          rotate_left 1
          · (obtain ⟨r1, r2, r3, r4⟩ := hR); go_simp; try with_reducible rfl
          try simp only [Act.put, List.setIfInBounds_toArray, List.set_cons_zero, List.set_cons_succ]
          refine WS.one (i := 14) rfl (by kernel_rfl) (by rfl) (fun K hK => ?_)
          go_simp
          refine hK _ _ (fun q hq hq2 => ?_) ?_
          · simp only [List.mem_cons, List.not_mem_nil, or_false] at hq
            subst hq
            revert hq2
            simp
          refine WS.done (by kernel_rfl) ?_
          clear k1 k2 k3 k4 hcopy
          go_wp2
          go_roundw
          case rel =>
            obtain ⟨hsi, hXl⟩ := HI.out
            refine ⟨i + 1, _, by go_num, by omega, by simp; exact hXl, fun j s' hj => ?_, HS6.out⟩
            simp only [List.getElem?_set]
            by_cases hij : i = j
            · subst hij
              rw [hsi] at hj; cases hj
              simp [show i < X.length by omega]
            · rw [if_neg hij, HX.out j s' hj]
              by_cases h : j < i
              · rw [if_pos h, if_pos (by omega)]
              · rw [if_neg h, if_neg (by omega)]
          case measure => simp [intOf]; omega
        · have hXb : ∀ (j : Nat) (s : Sec), D.secs[j]? = some s → X[j]? = some (Sec.mk s.fixed [] (decide ((j : Int) ∈ (([] : List (Int × Value)).map (·.1))))) := fun j s hj => by
            have h1 := hX j s hj
            have := (List.getElem?_eq_some_iff.1 hj).1
            rw [if_pos (by omega)] at h1
            simpa using h1
          clear hX
          obtain ⟨g, ho, hsg⟩ := devO.open hs3.p1
          obtain ⟨c0, c1, c2, c3, c4, c5, fr⟩ := devG.cells hsg
          obtain ⟨es, clock, hmo, hs4⟩ := S.map (devG.top hsg).p3
          have hrange := run_range_S (P := Try.prog) (kd := .i64) Try.underlying70 hs4.heap
          have hs5 := S.ranged hs4 hmo
          have hm := Lib.hid (fun (q : Int × Value) => nodup_lookup hmo.2.1 (x := q.1) (v := q.2))
          have HO := Lib.hid ho
          have hs6 : S W0 _ (F * vecB 86 2 (.slice la nl lm) nl (flatL D.looseL) * powO pw2 p2 * devO x pw2 ⟨X, 0, 0⟩ * rotDev b pw D g wr.heap.size []) := rotDev.of_parts hs5.perm
          clear hsg hs4 hs5 hmo ho c0 c1 c2 c4 c5 fr hs3
          go_wp2
          clear c3 hrange
          generalize wr.heap.size = it at *
          go_loopw [94] (fun _ wr => ∃ (done : List (Int × Value)) (X : List Sec), X.length = ns ∧ (∀ (j : Nat) (s : Sec), D.secs[j]? = some s → X[j]? = some (Sec.mk s.fixed [] (decide ((j : Int) ∈ done.map (·.1))))) ∧
            S W0 wr (F * vecB 86 2 (.slice la nl lm) nl (flatL D.looseL) * powO pw2 p2 * devO x pw2 ⟨X, 0, 0⟩ * rotDev b pw D g it done)) (fun _ wr => iterLeft it g.kvr.length wr)
          case atStart => exact ⟨[], X, hXl, hXb, hs6⟩
          case round =>
            clear hXl hXb hs6
            obtain ⟨done, X, hXl, hX, hs6⟩ := hrel
            have hs7 := rotDev.parts hs6
            have hleft := Lib.hid (S.left_of (n := g.kvr.length) hs7)
            rcases run_next_S (P := Try.prog) hs7 with ⟨hall, w2, hn, hs8⟩ | ⟨q, w2, hq, hnq, hn, hs8, hent⟩
            · have hXE : X = D.fatesN fates 0 := by
                apply List.ext_getElem?
                intro j
                rw [DevA.fatesN, List.getElem?_map]
                cases hj : D.secs[j]? with
                | none =>
                  have h1 := List.getElem?_eq_none_iff.1 hj
                  have h2 : X[j]? = none := by rw [List.getElem?_eq_none_iff]; omega
                  rw [h2]; rfl
                | some s =>
                  rw [hX j s hj]
                  have hkv := HO.out.2.2.2.1 (j : Int)
                  simp only [Int.natCast_nonneg, true_and, Int.toNat_natCast, hj, Option.map_some, Option.some.injEq] at hkv
                  have : decide ((j : Int) ∈ done.map (·.1)) = s.rotten := by
                    rw [Bool.eq_iff_iff]
                    simp only [decide_eq_true_eq]
                    constructor
                    · intro hd
                      obtain ⟨q, hq, hqj⟩ := List.mem_map.1 hd
                      have h3 := (hm.out q).1 (hs8.range_sub q hq)
                      rw [hqj, hkv] at h3
                      by_cases hr : s.rotten = true
                      · exact hr
                      · rw [if_neg hr] at h3; cases h3
                    · intro hr
                      rw [if_pos hr] at hkv
                      exact List.mem_map.2 ⟨((j : Int), .int .i64 1), hall ((j : Int), .int .i64 1) ((hm.out ((j : Int), .int .i64 1)).2 hkv), rfl⟩
                  rw [this]; rfl
              have hs9 := rotDev.shut (rotDev.of_parts hs8) HO.out
              subst hXE
              clear hs8 hs7 hs6 hX hall hm hleft
              go_wp2
              go_loopw [105] (fun vi wr => ∃ i : Nat, vi = .int .i64 i ∧ i ≤ nf ∧ S W0 wr (F * vecB 86 2 (.slice la nl lm) nl (flatL D.looseL) * powO pw2 p2 * devO x pw2 ⟨D.fatesN fates i, 0, 0⟩ * devO b pw D)) (fun vi _ => nf - (intOf vi).toNat)
              case atStart => exact ⟨0, rfl, by omega, hs9⟩
              case round =>
                clear hs9
                obtain ⟨i, rfl, hi, hs9⟩ := hrel
                by_cases hlt : i < nf
                · have hrd := HR.out _ hs9.left.left.left.left
                  obtain ⟨fb, fo, rfl⟩ := hrd.addr (by omega)
                  obtain ⟨k, hk⟩ : ∃ k, fates[i]? = some k := ⟨fates[i]'(by rw [HNF.out]; exact hlt), by simp [HNF.out, hlt]⟩
                  obtain ⟨y, hy⟩ : ∃ y, D.looseL[i]? = some y := ⟨D.looseL[i]'(by rw [HNL.out]; omega), by simp [show i < D.looseL.length by rw [HNL.out]; omega]⟩
                  have cf := hrd.cell (j := i) (u := .int .i64 k) (by simp [i64s, hk])
                  have hrl := hs9.p3.reads
                  obtain ⟨lb, lo, rfl⟩ := reads_addr hrl (by omega)
                  obtain ⟨idx, s, hsi, hsne, rfl⟩ := DevA.looseL_at hy
                  obtain ⟨hlx, hyx⟩ := List.getElem?_eq_some_iff.1 hy
                  obtain ⟨g1, g2⟩ := flatL_get D.looseL i hlx
                  rw [hyx] at g1
                  have cl := hrl.cell (j := i * 2) g1
                  have hstep := DevA.fatesN_succ hy hk
                  have hat : D.fateAt fates i = (decide (0 ≤ k) && decide (k ≤ (s.loose.length : Int))) := by simp [DevA.fateAt, hk, hy]
                  have hkb : 0 ≤ k ∧ k ≤ s.loose.length := by
                    have h := DevA.fateOk_at HOK.out hlt
                    rw [hat] at h
                    simpa using h
                  obtain ⟨hk0, hk1⟩ := hkb
                  have i0 : (0 : Int) ≤ i := by omega
                  have i1 : (i : Int) < nf := by omega
                  have i2 : (i : Int) < nl := by omega
                  clear hrd hrl g1 g2 hy hk hat hlx hyx
                  by_cases hkp : 0 < k
                  · have hidx := (List.getElem?_eq_some_iff.1 hsi).1
                    obtain ⟨l, hl⟩ : ∃ l, s.loose[k.toNat - 1]? = some l := ⟨s.loose[k.toNat - 1]'(by omega), by simp [show k.toNat - 1 < s.loose.length by omega]⟩
                    have hl64 : l.length = 64 := (HF.out s (List.mem_of_getElem? hsi)).2 l (List.mem_of_getElem? hl)
                    have hXl := DevA.fatesN_length D fates i
                    obtain ⟨s', hs'⟩ : ∃ s', (D.fatesN fates i)[idx]? = some s' := ⟨(D.fatesN fates i)[idx]'(by omega), by simp [show idx < (D.fatesN fates i).length by omega]⟩
                    have hs'l := DevA.fatesN_loose D fates i s' (List.mem_of_getElem? hs')
                    have hs'64 : s'.fixed.length = 64 := by
                      obtain ⟨_, ho, _⟩ := devO.open hs9.p1
                      exact (ho.2.2.2.2.2.2.2 s' (List.mem_of_getElem? hs')).1
                    obtain ⟨fxb, fxv, R, k1, k2, hs10, hw⟩ := devO.fixedOpen hs9.p1 hs'
                    obtain ⟨dm, qb, qm, u, k3, k4, k5, hrd⟩ := devO.looseRead hs9.drew hsi hl
                    unfold bytesV at hs10
                    obtain ⟨w5, hcopy, hs11⟩ := run_copy_S (P := Try.prog) TU8 44 3 hs10.drew (x := u) (m := l.length) (ys := u8s l) (hrd.mono fun p u h => h) (by simp [u8s, Value.oneCell'])
                    have hs12 := hw w5 (F * vecB 86 2 (.slice (some ⟨lb, lo, none⟩) nl lm) nl (flatL D.looseL) * powO pw2 p2 * devO b pw D) l hl64 (by
                      unfold bytesV
                      have e : (u8s l).take (min l.length s'.fixed.length * 1) ++ (u8s s'.fixed).drop (min l.length s'.fixed.length * 1) = u8s l := by
                        rw [hl64, hs'64, List.take_of_length_le (by simp [u8s, hl64]), List.drop_of_length_le (by simp [u8s, hs'64])]; simp
                      rw [e] at hs11
                      rw [hl64]
                      rw [hs'64] at hs11
                      exact hs11)
                    have hX2 : ((D.fatesN fates i).set idx { s' with fixed := l })[idx]? = some { s' with fixed := l } := by simp [show idx < (D.fatesN fates i).length by omega]
                    obtain ⟨rm, kvr, R2, k6, hnd, hs13, _, hdel⟩ := devO.rotOpen hs12 hX2
                    obtain ⟨es2, clock2, hmo2, hs14⟩ := S.map hs13
                    obtain ⟨es3, clock3, hmo3, hdl⟩ := run_delete_int (P := Try.prog) (ty := 0) (ats := #[70, 3]) rfl Try.underlying70 Try.underlying3 hs14.heap hmo2 (idx : Int)
                    have hs15 := hdel _ _ ((hs14.setObj (o' := .map es3 clock3)).to_map hmo3)
                    have hE2 : ((D.fatesN fates i).set idx { s' with fixed := l }).set idx { ({ s' with fixed := l } : Sec) with rotten := false } = D.fatesN fates (i + 1) := by
                      rw [hstep, DevA.fateStep, if_pos hkp, List.set_set]
                      simp only [Int.toNat_natCast, hsi, Option.bind_some, hl, Option.getD_some]
                      rw [hs'l]
                    have hs16 : S W0 { w5 with heap := w5.heap.setIfInBounds rm (.map es3 clock3) } (F * vecB 86 2 (.slice (some ⟨lb, lo, none⟩) nl lm) nl (flatL D.looseL) * powO pw2 p2 * devO x pw2 ⟨D.fatesN fates (i + 1), 0, 0⟩ * devO b pw D) := by
                      simp only [hE2] at hs15; exact hs15.p1
                    have HS := Lib.hid hs16
                    have j0 : (0 : Int) ≤ idx := by omega
                    have j1 : (idx : Int) < ns := by omega
                    have j2 : IntKind.i64.wrap (k - 1) = k - 1 := IntWalk.i64_in _ (by
                      have h8 : s.loose.length ≤ maxLen := by
                        obtain ⟨_, ho, hg⟩ := devO.open hs9
                        obtain ⟨fv', lv', _, e2, hg2⟩ := devG.sec hg ho hsi
                        cases lv' with
                        | none => exact absurd ((devG.lv_none hg ho hsi e2).1 rfl) hsne
                        | some v => obtain ⟨_, _, _, h⟩ := devG.lv_shape hg ho hsi e2; exact h
                      simp only [maxLen] at h8
                      omega)
                    have j3 : (0 : Int) ≤ k - 1 := by omega
                    have j4 : k - 1 < s.loose.length := by omega
                    have j5 : (k - 1).toNat = k.toNat - 1 := by omega
                    have j6 : (1 : Int) ≤ k := by omega
                    simp only [hXl] at k1
                    rw [HNS.out] at k1
                    generalize hsl : s.loose.length = sl at *
                    generalize hkn : k.toNat - 1 = kn at *
                    clear hw hdel hs16 hs15 hE2 hs14 hs13 hs12 hs11 hs10 hs9 hX2 hmo2 hmo3 hnd hs' hs'l hs'64 hXl hrd hsi hstep hidx hl hl64
                    go_wp2
                    refine wp_region_S [(17, fun w => w.cell? ⟨x, 1, none⟩ = some (.slice (some ⟨fxb, 0, none⟩) ns ns) ∧ w.cell? ⟨fxb, idx, none⟩ = some fxv ∧ w.cell? ⟨b, 2, none⟩ = some (.map (some dm)) ∧
                      (Instr.lookup 69 (.map (some dm)) (.int .i64 idx) false).run Try.prog w = .ok (.slice (some ⟨qb, 0, none⟩) sl qm) w ∧ w.cell? ⟨qb, kn, none⟩ = some u)] rfl ?_ ?_
                    · simp only [List.mem_cons, List.not_mem_nil, or_false, forall_eq]
                      exact ⟨k1, k2, k3, k4, k5⟩
                    refine WS.takeP (i := 0) (v := ?_) rfl (by kernel_rfl) (by kernel_rfl) (by kernel_rfl) rfl (fun _ _ _ h => h) (by rfl) (fun w1 => ?_) ?_
                    rotate_left 1
                    · go_simp; try with_reducible rfl
                    try simp only [Act.put, List.setIfInBounds_toArray, List.set_cons_zero, List.set_cons_succ]
                    refine WS.takeP (i := 1) (v := ?_) rfl (by kernel_rfl) (by kernel_rfl) (by kernel_rfl) rfl (fun _ _ _ h => h) (by rfl) (fun w1 => ?_) ?_
                    rotate_left 1
                    · go_simp; try with_reducible rfl
                    try simp only [Act.put, List.setIfInBounds_toArray, List.set_cons_zero, List.set_cons_succ]
                    refine WS.takeP (i := 2) (v := ?_) rfl (by kernel_rfl) (by kernel_rfl) (by kernel_rfl) rfl (fun _ _ _ h => h) (by rfl) (fun w1 => ?_) ?_
                    rotate_left 1
                    · go_simp; try with_reducible rfl
                    try simp only [Act.put, List.setIfInBounds_toArray, List.set_cons_zero, List.set_cons_succ]
                    refine WS.takeR (i := 3) (v := ?_) (17) _ (by first | exact .head _ | exact .tail _ (.head _) | exact .tail _ (.tail _ (.head _))) rfl (by kernel_rfl) (by kernel_rfl) (by kernel_rfl) rfl (by kernel_rfl) rfl (fun _ _ _ h => h) (by rfl) (fun w1 hR => ?_) ?_
                    rotate_left 1
                    · (obtain ⟨r1, r2, r3, r4, r5⟩ := hR); go_simp; try with_reducible rfl
                    try simp only [Act.put, List.setIfInBounds_toArray, List.set_cons_zero, List.set_cons_succ]
                    refine WS.takeP (i := 4) (v := ?_) rfl (by kernel_rfl) (by kernel_rfl) (by kernel_rfl) rfl (fun _ _ _ h => h) (by rfl) (fun w1 => ?_) ?_
                    rotate_left 1
                    · go_simp; try with_reducible rfl
                    try simp only [Act.put, List.setIfInBounds_toArray, List.set_cons_zero, List.set_cons_succ]
                    refine WS.takeP (i := 5) (v := ?_) rfl (by kernel_rfl) (by kernel_rfl) (by kernel_rfl) rfl (fun _ _ _ h => h) (by rfl) (fun w1 => ?_) ?_
                    rotate_left 1
                    · go_simp; try with_reducible rfl
                    try simp only [Act.put, List.setIfInBounds_toArray, List.set_cons_zero, List.set_cons_succ]
                    refine WS.takeR (i := 6) (v := ?_) (17) _ (by first | exact .head _ | exact .tail _ (.head _) | exact .tail _ (.tail _ (.head _))) rfl (by kernel_rfl) (by kernel_rfl) (by kernel_rfl) rfl (by kernel_rfl) rfl (fun _ _ _ h => h) (by rfl) (fun w1 hR => ?_) ?_
                    rotate_left 1
                    · (obtain ⟨r1, r2, r3, r4, r5⟩ := hR); go_simp; try with_reducible rfl
                    try simp only [Act.put, List.setIfInBounds_toArray, List.set_cons_zero, List.set_cons_succ]
                    refine WS.takeP (i := 7) (v := ?_) rfl (by kernel_rfl) (by kernel_rfl) (by kernel_rfl) rfl (fun _ _ _ h => h) (by rfl) (fun w1 => ?_) ?_
                    rotate_left 1
                    · go_simp; try with_reducible rfl
                    try simp only [Act.put, List.setIfInBounds_toArray, List.set_cons_zero, List.set_cons_succ]
                    refine WS.takeP (i := 8) (v := ?_) rfl (by kernel_rfl) (by kernel_rfl) (by kernel_rfl) rfl (fun _ _ _ h => h) (by rfl) (fun w1 => ?_) ?_
                    rotate_left 1
                    · go_simp; try with_reducible rfl
                    try simp only [Act.put, List.setIfInBounds_toArray, List.set_cons_zero, List.set_cons_succ]
                    refine WS.takeP (i := 9) (v := ?_) rfl (by kernel_rfl) (by kernel_rfl) (by kernel_rfl) rfl (fun _ _ _ h => h) (by rfl) (fun w1 => ?_) ?_
                    rotate_left 1
                    · go_simp; try with_reducible rfl
                    try simp only [Act.put, List.setIfInBounds_toArray, List.set_cons_zero, List.set_cons_succ]
                    refine WS.takeR (i := 10) (v := ?_) (17) _ (by first | exact .head _ | exact .tail _ (.head _) | exact .tail _ (.tail _ (.head _))) rfl (by kernel_rfl) (by kernel_rfl) (by kernel_rfl) rfl (by kernel_rfl) rfl (fun _ _ _ h => h) (by rfl) (fun w1 hR => ?_) ?_
                    rotate_left 1
                    · (obtain ⟨r1, r2, r3, r4, r5⟩ := hR); go_simp; try with_reducible rfl
                    try simp only [Act.put, List.setIfInBounds_toArray, List.set_cons_zero, List.set_cons_succ]
                    refine WS.takeP (i := 11) (v := ?_) rfl (by kernel_rfl) (by kernel_rfl) (by kernel_rfl) rfl (fun _ _ _ h => h) (by rfl) (fun w1 => ?_) ?_
                    rotate_left 1
                    · go_simp; try with_reducible rfl
                    try simp only [Act.put, List.setIfInBounds_toArray, List.set_cons_zero, List.set_cons_succ]
                    refine WS.takeR (i := 12) (v := ?_) (17) _ (by first | exact .head _ | exact .tail _ (.head _) | exact .tail _ (.tail _ (.head _))) rfl (by kernel_rfl) (by kernel_rfl) (by kernel_rfl) rfl (by kernel_rfl) rfl (fun _ _ _ h => h) (by rfl) (fun w1 hR => ?_) ?_
                    rotate_left 1
                    · (obtain ⟨r1, r2, r3, r4, r5⟩ := hR); go_simp; try with_reducible rfl
                    try simp only [Act.put, List.setIfInBounds_toArray, List.set_cons_zero, List.set_cons_succ]
                    refine WS.takeP (i := 13) (v := ?_) rfl (by kernel_rfl) (by kernel_rfl) (by kernel_rfl) rfl (fun _ _ _ h => h) (by rfl) (fun w1 => ?_) ?_
                    rotate_left 1
                    · go_simp; try with_reducible rfl
                    try simp only [Act.put, List.setIfInBounds_toArray, List.set_cons_zero, List.set_cons_succ]
                    refine WS.takeP (i := 14) (v := ?_) rfl (by kernel_rfl) (by kernel_rfl) (by kernel_rfl) rfl (fun _ _ _ h => h) (by rfl) (fun w1 => ?_) ?_
                    rotate_left 1
                    · go_simp; try with_reducible rfl
                    try simp only [Act.put, List.setIfInBounds_toArray, List.set_cons_zero, List.set_cons_succ]
                    refine WS.takeP (i := 15) (v := ?_) rfl (by kernel_rfl) (by kernel_rfl) (by kernel_rfl) rfl (fun _ _ _ h => h) (by rfl) (fun w1 => ?_) ?_
                    rotate_left 1
                    · go_simp; try with_reducible rfl
                    try simp only [Act.put, List.setIfInBounds_toArray, List.set_cons_zero, List.set_cons_succ]
                    refine WS.takeR (i := 16) (v := ?_) (17) _ (by first | exact .head _ | exact .tail _ (.head _) | exact .tail _ (.tail _ (.head _))) rfl (by kernel_rfl) (by kernel_rfl) (by kernel_rfl) rfl (by kernel_rfl) rfl (fun _ _ _ h => h) (by rfl) (fun w1 hR => ?_) ?_
                    rotate_left 1
                    · (obtain ⟨r1, r2, r3, r4, r5⟩ := hR); go_simp; try with_reducible rfl
                    try simp only [Act.put, List.setIfInBounds_toArray, List.set_cons_zero, List.set_cons_succ]
                    refine WS.one (i := 17) rfl (by kernel_rfl) (by rfl) (fun K hK => ?_)
                    go_simp
                    refine hK _ _ (fun q hq hq2 => ?_) ?_
                    · simp only [List.mem_cons, List.not_mem_nil, or_false] at hq
                      subst hq
                      revert hq2
                      simp
                    refine WS.done (by kernel_rfl) ?_
                    clear k1 k2 k3 k4 k5 hcopy
                    go_wp2
                    generalize ({ w5 with heap := w5.heap.setIfInBounds rm (.map es3 clock3) } : World) = w6 at *
                    go_roundw
                    case rel => exact ⟨i + 1, by go_num, by omega, HS.out⟩
                    case measure => simp [intOf]; omega
                  · have hs10 : S W0 wr (F * vecB 86 2 (.slice (some ⟨lb, lo, none⟩) nl lm) nl (flatL D.looseL) * powO pw2 p2 * devO x pw2 ⟨D.fatesN fates (i + 1), 0, 0⟩ * devO b pw D) := by
                      rw [hstep, DevA.fateStep, if_neg hkp]; exact hs9
                    clear hs9
                    go_wp2
                    go_roundw
                    case rel => exact ⟨i + 1, by go_num, by omega, hs10⟩
                    case measure => simp [intOf]; omega
                · have hinf : nf = i := by omega
                  subst hinf
                  go_wp2
                  go_ret2
                  refine .inr ⟨hE, _, rfl, ?_⟩
                  unfold DevA.crashD
                  rw [HNF.out]
                  exact (hs9.p3.left).perm
            · obtain ⟨k, v⟩ := q
              have hlk : g.kvr.lookup k = some v := (hm.out (k, v)).1 hq
              have hkv := HO.out.2.2.2.1 k
              rw [hlk] at hkv
              have hk2 : 0 ≤ k ∧ (D.secs[k.toNat]?).map (·.rotten) = some true := by
                by_cases h : 0 ≤ k ∧ (D.secs[k.toNat]?).map (·.rotten) = some true
                · exact h
                · rw [if_neg h] at hkv; cases hkv
              rw [if_pos hk2] at hkv
              obtain rfl := Option.some.inj hkv
              obtain ⟨hk0, hk3⟩ := hk2
              obtain ⟨i, rfl⟩ := Int.eq_ofNat_of_zero_le hk0
              simp only [Int.toNat_natCast] at hk3
              obtain ⟨s, hsi, hsr⟩ := Option.map_eq_some_iff.1 hk3
              have hXi := hX i s hsi
              have hs9 := rotDev.of_parts hs8
              obtain ⟨rm, kvr, R, cr, _, hs10, hset, _⟩ := devO.rotOpen hs9.p1 hXi
              obtain ⟨es2, clock2, hmo2, hs11⟩ := S.map hs10
              obtain ⟨es3, clock3, hmo3, hupd⟩ := run_mapUpdate_int (P := Try.prog) Try.underlying70 Try.underlying3 hs11.heap hmo2 (i : Int) (.int .i64 1)
              have hs12 := hset _ _ ((hs11.setObj (o' := .map es3 clock3)).to_map hmo3)
              have HX := Lib.hid hX
              have HI := Lib.hid (⟨hsi, hXl⟩ : _ ∧ _)
              clear hset hs11 hs10 hs9 hs8 hs7 hs6 hX hXi hsi hk3 hkv hlk hq hnq hk0 hmo2 hmo3 hXl
              go_wp2
              generalize ({ w2 with heap := w2.heap.setIfInBounds rm (.map es3 clock3) } : World) = w4 at hs12 ⊢
              go_roundw
              case rel =>
                obtain ⟨hsi, hXl⟩ := HI.out
                refine ⟨_, _, by simp; exact hXl, fun j s' hj => ?_, hs12.p1⟩
                simp only [List.getElem?_set]
                by_cases hij : i = j
                · subst hij
                  rw [hsi] at hj; cases hj
                  have := (List.getElem?_eq_some_iff.1 hsi).1
                  simp [show i < X.length by omega]
                · rw [if_neg hij, HX.out j s' hj]
                  simp [show ¬ (j : Int) = i by omega]
              case measure =>
                have e1 := S.left_of (n := g.kvr.length) (rotDev.parts hs12.p1)
                have e2 := S.range_len (rotDev.parts hs12.p1)
                have e3 := hleft.out
                simp only [List.length_append, List.length_singleton] at e1 e2
                omega
end
end Go.Proofs.Ytnkjkkbjplneeaa
