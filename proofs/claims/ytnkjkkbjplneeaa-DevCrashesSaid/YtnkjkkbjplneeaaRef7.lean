/-
  What the document's Crash does.
-/
import Derived.Test.YtnkjkkbjplneeaaRef6
import Derived.Test.YtnkjkkbjplneeaaDevCrash
namespace Go.Proofs.Ytnkjkkbjplneeaa
open Go.RowKit Go.SL
set_option maxRecDepth 100000
set_option linter.unusedSimpArgs false
set_option linter.unusedVariables false
section
variable (W0 w : World) (F : HProp) (e q q2 : Nat) (D : DevA) (fates : List Int)
theorem base_ok {s : Sec} (h : s.Ok) : (DevA.base s).Ok := ⟨h.1, by simp [DevA.base]⟩
set_option maxHeartbeats 4000000 in
theorem RefCrash (hD : D.looseL.length ≤ 100000) (fv : Value) (hr : ∀ w, S W0 w F → ReadsW w 1 fv fates.length (i64s fates)) (hs : S W0 w (F * rdevO e q D)) :
    Calls Try.prog 44 #[.pointer (some ⟨e, 0, none⟩), .pointer (some ⟨q2, 0, none⟩), fv] w fun e' w' =>
      (D.crashE fates ≠ 0 ∧ e' = .returned (.tuple #[.pointer none, .int .i64 (D.crashE fates)]) ∧ S W0 w' (F * rdevO e q D)) ∨
      (D.crashE fates = 0 ∧ ∃ x, e' = .returned (.tuple #[.pointer (some ⟨x, 0, none⟩), .int .i64 0]) ∧ S W0 w' (F * rdevO e q D * rdevO x q2 (D.crashD fates))) := by
  obtain ⟨_, _, _, _, ho⟩ := rdevO.cells hs
  have hsec : D.secs.length ≤ 4096 := ho.2.2.1
  have hfix : ∀ s ∈ D.secs, s.Ok := ho.2.2.2
  have hloose := RefLoose W0 w F e q D hs
  obtain ⟨ad, m, rfl⟩ := (hr w hs.left).shape
  have hmax := (hr w hs.left).2.1
  simp only [maxLen] at hmax
  have HF := Lib.hid hfix
  have HR := Lib.hid hr
  clear hs hfix hr ho
  generalize hnf : fates.length = nf at *
  have HNF := Lib.hid hnf
  clear hnf
  go_enter Try.func44, Try.ntmps44
  go_wp2_with fail
  refine hloose.mono ?_
  rintro e' w1 ⟨v, rfl, hs1⟩
  obtain ⟨la, lm, rfl⟩ := vec_shape hs1
  clear hloose
  generalize hnl : D.looseL.length = nl at *
  have HNL := Lib.hid hnl
  clear hnl
  by_cases hlong : nl < nf
  · have h1 : (nl : Int) < nf := by omega
    go_wp2
    go_ret2
    have e1 : D.crashE fates = 7 := by unfold DevA.crashE; rw [if_pos (by rw [HNL.out, HNF.out]; exact hlong)]
    rw [e1]
    exact .inl ⟨by decide, rfl, hs1.left⟩
  have h1 : ¬ (nl : Int) < nf := by omega
  go_wp2
  go_loopw [9] (fun vi wr => ∃ i : Nat, vi = .int .i64 i ∧ i ≤ nf ∧ S W0 wr (F * rdevO e q D * vecB 86 2 (.slice la nl lm) nl (flatL D.looseL)) ∧ D.fateOk fates i = true) (fun vi _ => nf - (intOf vi).toNat)
  case atStart => exact ⟨0, rfl, by omega, hs1, rfl⟩
  case round =>
    clear hs1
    obtain ⟨i, rfl, hi, hs1, hok⟩ := hrel
    have HOK := Lib.hid hok
    clear hok
    by_cases hlt : i < nf
    · have hrd := HR.out _ hs1.left.left
      obtain ⟨fb, fo, rfl⟩ := hrd.addr (by omega)
      obtain ⟨k, hk⟩ : ∃ k, fates[i]? = some k := ⟨fates[i]'(by rw [HNF.out]; exact hlt), by simp [HNF.out, hlt]⟩
      obtain ⟨x, hx⟩ : ∃ x, D.looseL[i]? = some x := ⟨D.looseL[i]'(by rw [HNL.out]; omega), by simp [show i < D.looseL.length by rw [HNL.out]; omega]⟩
      have cf := hrd.cell (j := i) (u := .int .i64 k) (by simp [i64s, hk])
      have hrl := hs1.reads
      obtain ⟨lb, lo, rfl⟩ := reads_addr hrl (by omega)
      obtain ⟨hlx, rfl⟩ := List.getElem?_eq_some_iff.1 hx
      obtain ⟨g1, g2⟩ := flatL_get D.looseL i hlx
      have cl := hrl.cell (j := i * 2 + 1) g2
      have hat : D.fateAt fates i = (decide (0 ≤ k) && decide (k ≤ D.looseL[i].2)) := by simp [DevA.fateAt, hk, hx]
      generalize D.looseL[i] = x at *
      have i0 : (0 : Int) ≤ i := by omega
      have i1 : (i : Int) < nf := by omega
      have i2 : (i : Int) < nl := by omega
      have HAT := Lib.hid hat
      rw [show lo + (i * 2 + 1) = lo + i * 2 + 1 by omega] at cl
      clear hrd hrl g1 g2 hx hk hat hlx
      by_cases hk0 : k < 0
      · have hk1 := decide_eq_true hk0
        go_wp2
        go_quiet (fail)
        go_wp2
        go_ret2
        have e1 : D.crashE fates = 3 := by
          unfold DevA.crashE
          rw [if_neg (by rw [HNL.out, HNF.out]; exact hlong), DevA.fateOk_not (j := i) (by rw [HAT.out]; simp; omega) (by rw [HNF.out]; exact hlt)]
          rfl
        rw [e1]
        exact .inl ⟨by decide, rfl, drewN_S _ hs1.left⟩
      by_cases hk1 : x.2 < k
      · go_wp2
        go_quiet (fail)
        go_wp2
        go_ret2
        have e1 : D.crashE fates = 3 := by
          unfold DevA.crashE
          rw [if_neg (by rw [HNL.out, HNF.out]; exact hlong), DevA.fateOk_not (j := i) (by rw [HAT.out]; simp; omega) (by rw [HNF.out]; exact hlt)]
          rfl
        rw [e1]
        exact .inl ⟨by decide, rfl, drewN_S _ hs1.left⟩
      have hok2 : D.fateOk fates (i + 1) = true := by rw [DevA.fateOk_succ, HOK.out, HAT.out]; simp; omega
      go_wp2
      go_quiet (fail)
      go_wp2
      go_roundw
      case rel => exact ⟨i + 1, by go_num, by omega, drewN_S _ hs1, hok2⟩
      case measure => simp [intOf]; omega
    · have hinf : nf = i := by omega
      subst hinf
      have hE : D.crashE fates = 0 := by
        unfold DevA.crashE
        rw [if_neg (by rw [HNL.out, HNF.out]; exact hlong), HNF.out, HOK.out]
        rfl
      have HE := Lib.hid hE
      clear hE
      obtain ⟨g, hl, hoX, hsg⟩ := rdevO.open hs1.p1
      obtain ⟨_, c1, _⟩ := rdevG.cells hsg
      have hnew := RefNew W0 wr (F * rdevO e q D * vecB 86 2 (.slice la nl lm) nl (flatL D.looseL)) q2 D.secs.length hsec hs1
      clear hi hs1 hsg hoX hl
      generalize hns : D.secs.length = ns at *
      have HNS := Lib.hid hns
      clear hns
      go_wp2_with fail
      refine hnew.mono ?_
      rintro e' w' ⟨x, rfl, hs2⟩
      clear hnew c1
      have hs3 : S W0 w' (F * vecB 86 2 (.slice la nl lm) nl (flatL D.looseL) * rdevO e q D * rdevO x q2 ⟨List.replicate ns secNew, 0, 0⟩) := hs2.perm
      clear hs2
      go_wp2
      go_loopw [11] (fun vi wr => ∃ (i : Nat) (X : List Sec), vi = .int .i64 i ∧ i ≤ ns ∧ X.length = ns ∧ (∀ (j : Nat) (s : Sec), D.secs[j]? = some s → X[j]? = some (if j < i then DevA.base s else secNew)) ∧
        S W0 wr (F * vecB 86 2 (.slice la nl lm) nl (flatL D.looseL) * rdevO e q D * rdevO x q2 ⟨X, 0, 0⟩)) (fun vi _ => ns - (intOf vi).toNat)
      case atStart => exact ⟨0, _, rfl, by omega, by simp, fun j s hj => by have := (List.getElem?_eq_some_iff.1 hj).1; have h := HNS.out; simp [List.getElem?_replicate, show j < ns by omega], hs3⟩
      case round =>
        clear hs3
        obtain ⟨i, X, rfl, hi, hXl, hX, hs3⟩ := hrel
        obtain ⟨gx, hlx, hox, hsx⟩ := rdevO.open hs3
        obtain ⟨_, cx, _⟩ := rdevG.cells hsx
        simp only [hXl] at cx
        obtain ⟨gd, hld, hod, hsd⟩ := rdevO.open hs3.p1
        obtain ⟨_, cd, _⟩ := rdevG.cells hsd
        rw [HNS.out] at cd
        have HX := Lib.hid (⟨hX, hXl⟩ : _ ∧ _)
        by_cases hlt : i < ns
        · obtain ⟨s, hsi⟩ : ∃ s, D.secs[i]? = some s := ⟨D.secs[i]'(by rw [HNS.out]; exact hlt), by simp [HNS.out, hlt]⟩
          have hXi := hX i s hsi
          rw [if_neg (by omega)] at hXi
          have hsok : s.Ok := HF.out s (List.mem_of_getElem? hsi)
          obtain ⟨lvx, _, x0, x1, x2, fx⟩ := rdevG.at hsx hlx hXi
          obtain ⟨lvd, _, y0, y1, y2, _⟩ := rdevG.at hsd hld hsi
          have f0 := fx (i * 3)
          have f1 := fx (i * 3 + 1)
          have f2 := fx (i * 3 + 2)
          have hput := (rdev_put hsx hlx hox hXi (DevA.base s) (base_ok hsok) rfl).drew
          simp only [DevA.base] at hput
          unfold strV at hput x0 y0
          have HSI := Lib.hid hsi
          have i0 : (0 : Int) ≤ i := by omega
          have i1 : (i : Int) < ns := by omega
          clear hsx hlx hox hsd hld hod hX hXl hXi hsok hs3 hsi fx y1
          go_wp2
          refine wp_region_S [(23, fun w => w.cell? ⟨x, 1, none⟩ = some (.slice (some ⟨gx.sb, 0, none⟩) ns ns) ∧ w.cell? ⟨e, 1, none⟩ = some (.slice (some ⟨gd.sb, 0, none⟩) ns ns) ∧ w.cell? ⟨gd.sb, i * 3, none⟩ = some (.string ⟨s.fixed.toArray⟩) ∧ w.cell? ⟨gd.sb, i * 3 + 2, none⟩ = some (.bool s.rotten))] rfl ?_ ?_
          · simp only [List.mem_cons, List.not_mem_nil, or_false, forall_eq]
            exact ⟨cx, cd, y0, y2⟩
          refine WS.takeP (i := 0) (v := ?_) rfl (by kernel_rfl) (by kernel_rfl) (by kernel_rfl) rfl (fun _ _ _ h => h) (by rfl) (fun w1 => ?_) ?_
          rotate_left 1
          · go_simp; try with_reducible rfl
          try simp only [Act.put, List.setIfInBounds_toArray, List.set_cons_zero, List.set_cons_succ]
          refine WS.takeP (i := 1) (v := ?_) rfl (by kernel_rfl) (by kernel_rfl) (by kernel_rfl) rfl (fun _ _ _ h => h) (by rfl) (fun w1 => ?_) ?_
          rotate_left 1
          · go_simp; try with_reducible rfl
          try simp only [Act.put, List.setIfInBounds_toArray, List.set_cons_zero, List.set_cons_succ]
          refine WS.takeP (i := 2) (v := ?_) rfl (by kernel_rfl) (by kernel_rfl) (by kernel_rfl) rfl (fun _ _ _ h => h) (by rfl) (fun w1 => ?_) ?_
          rotate_left 1
          · go_simp; try with_reducible rfl
          try simp only [Act.put, List.setIfInBounds_toArray, List.set_cons_zero, List.set_cons_succ]
          refine WS.takeR (i := 3) (v := ?_) (23) _ (by first | exact .head _ | exact .tail _ (.head _) | exact .tail _ (.tail _ (.head _))) rfl (by kernel_rfl) (by kernel_rfl) (by kernel_rfl) rfl (by kernel_rfl) rfl (fun _ _ _ h => h) (by rfl) (fun w1 hR => ?_) ?_
          rotate_left 1
          · (obtain ⟨r1, r2, r3, r4⟩ := hR); go_simp; try with_reducible rfl
          try simp only [Act.put, List.setIfInBounds_toArray, List.set_cons_zero, List.set_cons_succ]
          refine WS.takeP (i := 4) (v := ?_) rfl (by kernel_rfl) (by kernel_rfl) (by kernel_rfl) rfl (fun _ _ _ h => h) (by rfl) (fun w1 => ?_) ?_
          rotate_left 1
          · go_simp; try with_reducible rfl
          try simp only [Act.put, List.setIfInBounds_toArray, List.set_cons_zero, List.set_cons_succ]
          refine WS.takeP (i := 5) (v := ?_) rfl (by kernel_rfl) (by kernel_rfl) (by kernel_rfl) rfl (fun _ _ _ h => h) (by rfl) (fun w1 => ?_) ?_
          rotate_left 1
          · go_simp; try with_reducible rfl
          try simp only [Act.put, List.setIfInBounds_toArray, List.set_cons_zero, List.set_cons_succ]
          refine WS.takeP (i := 6) (v := ?_) rfl (by kernel_rfl) (by kernel_rfl) (by kernel_rfl) rfl (fun _ _ _ h => h) (by rfl) (fun w1 => ?_) ?_
          rotate_left 1
          · go_simp; try with_reducible rfl
          try simp only [Act.put, List.setIfInBounds_toArray, List.set_cons_zero, List.set_cons_succ]
          refine WS.takeP (i := 7) (v := ?_) rfl (by kernel_rfl) (by kernel_rfl) (by kernel_rfl) rfl (fun _ _ _ h => h) (by rfl) (fun w1 => ?_) ?_
          rotate_left 1
          · go_simp; try with_reducible rfl
          try simp only [Act.put, List.setIfInBounds_toArray, List.set_cons_zero, List.set_cons_succ]
          refine WS.takeR (i := 8) (v := ?_) (23) _ (by first | exact .head _ | exact .tail _ (.head _) | exact .tail _ (.tail _ (.head _))) rfl (by kernel_rfl) (by kernel_rfl) (by kernel_rfl) rfl (by kernel_rfl) rfl (fun _ _ _ h => h) (by rfl) (fun w1 hR => ?_) ?_
          rotate_left 1
          · (obtain ⟨r1, r2, r3, r4⟩ := hR); go_simp; try with_reducible rfl
          try simp only [Act.put, List.setIfInBounds_toArray, List.set_cons_zero, List.set_cons_succ]
          refine WS.takeP (i := 9) (v := ?_) rfl (by kernel_rfl) (by kernel_rfl) (by kernel_rfl) rfl (fun _ _ _ h => h) (by rfl) (fun w1 => ?_) ?_
          rotate_left 1
          · go_simp; try with_reducible rfl
          try simp only [Act.put, List.setIfInBounds_toArray, List.set_cons_zero, List.set_cons_succ]
          refine WS.takeP (i := 10) (v := ?_) rfl (by kernel_rfl) (by kernel_rfl) (by kernel_rfl) rfl (fun _ _ _ h => h) (by rfl) (fun w1 => ?_) ?_
          rotate_left 1
          · go_simp; try with_reducible rfl
          try simp only [Act.put, List.setIfInBounds_toArray, List.set_cons_zero, List.set_cons_succ]
          refine WS.takeP (i := 11) (v := ?_) rfl (by kernel_rfl) (by kernel_rfl) (by kernel_rfl) rfl (fun _ _ _ h => h) (by rfl) (fun w1 => ?_) ?_
          rotate_left 1
          · go_simp; try with_reducible rfl
          try simp only [Act.put, List.setIfInBounds_toArray, List.set_cons_zero, List.set_cons_succ]
          refine WS.takeR (i := 12) (v := ?_) (23) _ (by first | exact .head _ | exact .tail _ (.head _) | exact .tail _ (.tail _ (.head _))) rfl (by kernel_rfl) (by kernel_rfl) (by kernel_rfl) rfl (by kernel_rfl) rfl (fun _ _ _ h => h) (by rfl) (fun w1 hR => ?_) ?_
          rotate_left 1
          · (obtain ⟨r1, r2, r3, r4⟩ := hR); go_simp; try with_reducible rfl
          try simp only [Act.put, List.setIfInBounds_toArray, List.set_cons_zero, List.set_cons_succ]
          refine WS.takeP (i := 13) (v := ?_) rfl (by kernel_rfl) (by kernel_rfl) (by kernel_rfl) rfl (fun _ _ _ h => h) (by rfl) (fun w1 => ?_) ?_
          rotate_left 1
          · go_simp; try with_reducible rfl
          try simp only [Act.put, List.setIfInBounds_toArray, List.set_cons_zero, List.set_cons_succ]
          refine WS.takeP (i := 14) (v := ?_) rfl (by kernel_rfl) (by kernel_rfl) (by kernel_rfl) rfl (fun _ _ _ h => h) (by rfl) (fun w1 => ?_) ?_
          rotate_left 1
          · go_simp; try with_reducible rfl
          try simp only [Act.put, List.setIfInBounds_toArray, List.set_cons_zero, List.set_cons_succ]
          refine WS.takeP (i := 15) (v := ?_) rfl (by kernel_rfl) (by kernel_rfl) (by kernel_rfl) rfl (fun _ _ _ h => h) (by rfl) (fun w1 => ?_) ?_
          rotate_left 1
          · go_simp; try with_reducible rfl
          try simp only [Act.put, List.setIfInBounds_toArray, List.set_cons_zero, List.set_cons_succ]
          refine WS.takeR (i := 16) (v := ?_) (23) _ (by first | exact .head _ | exact .tail _ (.head _) | exact .tail _ (.tail _ (.head _))) rfl (by kernel_rfl) (by kernel_rfl) (by kernel_rfl) rfl (by kernel_rfl) rfl (fun _ _ _ h => h) (by rfl) (fun w1 hR => ?_) ?_
          rotate_left 1
          · (obtain ⟨r1, r2, r3, r4⟩ := hR); go_simp; try with_reducible rfl
          try simp only [Act.put, List.setIfInBounds_toArray, List.set_cons_zero, List.set_cons_succ]
          refine WS.takeP (i := 17) (v := ?_) rfl (by kernel_rfl) (by kernel_rfl) (by kernel_rfl) rfl (fun _ _ _ h => h) (by rfl) (fun w1 => ?_) ?_
          rotate_left 1
          · go_simp; try with_reducible rfl
          try simp only [Act.put, List.setIfInBounds_toArray, List.set_cons_zero, List.set_cons_succ]
          refine WS.takeP (i := 18) (v := ?_) rfl (by kernel_rfl) (by kernel_rfl) (by kernel_rfl) rfl (fun _ _ _ h => h) (by rfl) (fun w1 => ?_) ?_
          rotate_left 1
          · go_simp; try with_reducible rfl
          try simp only [Act.put, List.setIfInBounds_toArray, List.set_cons_zero, List.set_cons_succ]
          refine WS.takeP (i := 19) (v := ?_) rfl (by kernel_rfl) (by kernel_rfl) (by kernel_rfl) rfl (fun _ _ _ h => h) (by rfl) (fun w1 => ?_) ?_
          rotate_left 1
          · go_simp; try with_reducible rfl
          try simp only [Act.put, List.setIfInBounds_toArray, List.set_cons_zero, List.set_cons_succ]
          refine WS.takeR (i := 20) (v := ?_) (23) _ (by first | exact .head _ | exact .tail _ (.head _) | exact .tail _ (.tail _ (.head _))) rfl (by kernel_rfl) (by kernel_rfl) (by kernel_rfl) rfl (by kernel_rfl) rfl (fun _ _ _ h => h) (by rfl) (fun w1 hR => ?_) ?_
          rotate_left 1
          · (obtain ⟨r1, r2, r3, r4⟩ := hR); go_simp; try with_reducible rfl
          try simp only [Act.put, List.setIfInBounds_toArray, List.set_cons_zero, List.set_cons_succ]
          refine WS.takeP (i := 21) (v := ?_) rfl (by kernel_rfl) (by kernel_rfl) (by kernel_rfl) rfl (fun _ _ _ h => h) (by rfl) (fun w1 => ?_) ?_
          rotate_left 1
          · go_simp; try with_reducible rfl
          try simp only [Act.put, List.setIfInBounds_toArray, List.set_cons_zero, List.set_cons_succ]
          refine WS.takeP (i := 22) (v := ?_) rfl (by kernel_rfl) (by kernel_rfl) (by kernel_rfl) rfl (fun _ _ _ h => h) (by rfl) (fun w1 => ?_) ?_
          rotate_left 1
          · go_simp; try with_reducible rfl
          try simp only [Act.put, List.setIfInBounds_toArray, List.set_cons_zero, List.set_cons_succ]
          refine WS.one (i := 23) rfl (by kernel_rfl) (by rfl) (fun K hK => ?_)
          go_simp
          refine hK _ _ (fun q hq hq2 => ?_) ?_
          · simp only [List.mem_cons, List.not_mem_nil, or_false] at hq
            subst hq
            revert hq2
            simp
          refine WS.done (by kernel_rfl) ?_
          generalize (((wr.setCell ⟨gx.sb, i * 3, none⟩ (.string ⟨s.fixed.toArray⟩)).setCell ⟨gx.sb, i * 3 + 1, none⟩ (.slice none 0 0)).setCell ⟨gx.sb, i * 3 + 2, none⟩ (.bool s.rotten)).drew = wz at hput ⊢
          clear x0 x1 x2 y0 y2 f0 f1 f2 cx cd
          go_wp2
          go_roundw
          case rel =>
            obtain ⟨hX, hXl⟩ := HX.out
            have hsi := HSI.out
            refine ⟨i + 1, _, by go_num, by omega, by simp; exact hXl, fun j s' hj => ?_, hput⟩
            simp only [List.getElem?_set]
            by_cases hij : i = j
            · subst hij
              rw [hsi] at hj; cases hj
              simp [show i < X.length by omega, DevA.base]
            · rw [if_neg hij, hX j s' hj]
              by_cases h : j < i
              · rw [if_pos h, if_pos (by omega)]
              · rw [if_neg h, if_neg (by omega)]
          case measure => simp [intOf]; omega
        · have hin : ns = i := by omega
          subst hin
          have hXE : X = D.fatesN fates 0 := by
            apply List.ext_getElem?
            intro j
            rw [DevA.fatesN, List.getElem?_map]
            cases hj : D.secs[j]? with
            | none =>
              have h1 := List.getElem?_eq_none_iff.1 hj
              have h2 : X[j]? = none := by rw [List.getElem?_eq_none_iff]; have := HNS.out; omega
              rw [h2]; rfl
            | some s =>
              have := (List.getElem?_eq_some_iff.1 hj).1
              rw [hX j s hj, if_pos (by have := HNS.out; omega)]; rfl
          subst hXE
          clear hsx hlx hox hsd hld hod hX hXl cx HX
          go_wp2
          clear cd
          go_loopw [12] (fun vi wr => ∃ i : Nat, vi = .int .i64 i ∧ i ≤ nf ∧ S W0 wr (F * vecB 86 2 (.slice la nl lm) nl (flatL D.looseL) * rdevO e q D * rdevO x q2 ⟨D.fatesN fates i, 0, 0⟩)) (fun vi _ => nf - (intOf vi).toNat)
          case atStart => exact ⟨0, rfl, by omega, hs3⟩
          case round =>
            clear hs3
            obtain ⟨i, rfl, hi, hs3⟩ := hrel
            by_cases hlt : i < nf
            · have hrd := HR.out _ hs3.left.left.left
              obtain ⟨fb, fo, rfl⟩ := hrd.addr (by omega)
              obtain ⟨k, hk⟩ : ∃ k, fates[i]? = some k := ⟨fates[i]'(by rw [HNF.out]; exact hlt), by simp [HNF.out, hlt]⟩
              obtain ⟨y, hy⟩ : ∃ y, D.looseL[i]? = some y := ⟨D.looseL[i]'(by rw [HNL.out]; omega), by simp [show i < D.looseL.length by rw [HNL.out]; omega]⟩
              have cf := hrd.cell (j := i) (u := .int .i64 k) (by simp [i64s, hk])
              have hrl := hs3.p2.reads
              obtain ⟨lb, lo, rfl⟩ := reads_addr hrl (by omega)
              obtain ⟨idx, s, hsi, hsne, rfl⟩ := DevA.looseL_at hy
              obtain ⟨hlx, hyx⟩ := List.getElem?_eq_some_iff.1 hy
              obtain ⟨g1, g2⟩ := flatL_get D.looseL i hlx
              rw [hyx] at g1
              have cl := hrl.cell (j := i * 2) g1
              have hstep := DevA.fatesN_succ hy hk
              have hat : D.fateAt fates i = (decide (0 ≤ k) && decide (k ≤ (s.loose.length : Int))) := by simp [DevA.fateAt, hk, hy]
              have hkb : 0 ≤ k ∧ k ≤ s.loose.length := by
                have h := DevA.fateOk_at HOK.out hlt
                rw [hat] at h
                simpa using h
              obtain ⟨hk0, hk1⟩ := hkb
              have i0 : (0 : Int) ≤ i := by omega
              have i1 : (i : Int) < nf := by omega
              have i2 : (i : Int) < nl := by omega
              clear hrd hrl g1 g2 hy hk hat hlx hyx
              by_cases hkp : 0 < k
              · have hidx := (List.getElem?_eq_some_iff.1 hsi).1
                obtain ⟨l, hl⟩ : ∃ l, s.loose[k.toNat - 1]? = some l := ⟨s.loose[k.toNat - 1]'(by omega), by simp [show k.toNat - 1 < s.loose.length by omega]⟩
                have hl64 : l.length = 64 := (HF.out s (List.mem_of_getElem? hsi)).2 l (List.mem_of_getElem? hl)
                have hXl := DevA.fatesN_length D fates i
                obtain ⟨s', hs'⟩ : ∃ s', (D.fatesN fates i)[idx]? = some s' := ⟨(D.fatesN fates i)[idx]'(by omega), by simp [show idx < (D.fatesN fates i).length by omega]⟩
                obtain ⟨gx, hlx, hox, hsx⟩ := rdevO.open hs3
                obtain ⟨_, cx, _⟩ := rdevG.cells hsx
                obtain ⟨gd, hld, hod, hsd⟩ := rdevO.open hs3.p1
                obtain ⟨_, cd, _⟩ := rdevG.cells hsd
                rw [HNS.out] at cd
                simp only [hXl, HNS.out] at cx
                obtain ⟨lvx, _, x0, x1, x2, fx⟩ := rdevG.at hsx hlx hs'
                obtain ⟨adl, ml, dl, hrdl⟩ := rdev_lv hsd hld hsi
                obtain ⟨qb, qo, rfl⟩ := reads_addr hrdl (by omega)
                have cq := hrdl.cell (j := k.toNat - 1) (u := strV l) (by simp [strsV, hl])
                have f0 := fx (idx * 3)
                have f1 := fx (idx * 3 + 1)
                have f2 := fx (idx * 3 + 2)
                have hput := (rdev_put hsx hlx hox hs' ⟨l, [], false⟩ ⟨hl64, by simp⟩ rfl).drew
                have hE2 : (D.fatesN fates i).set idx ⟨l, [], false⟩ = D.fatesN fates (i + 1) := by
                  rw [hstep, DevA.fateStep, if_pos hkp]
                  simp only [Int.toNat_natCast, hsi, Option.bind_some, hl, Option.getD_some]
                simp only [hE2] at hput
                unfold strV at hput x0 cq
                have hls : s.loose.length ≤ maxLen := reads_len hrdl
                simp only [maxLen] at hls
                have j0 : (0 : Int) ≤ idx := by omega
                have j1 : (idx : Int) < ns := by have := HNS.out; omega
                have j2 : IntKind.i64.wrap (k - 1) = k - 1 := IntWalk.i64_in _ (by omega)
                have j3 : (0 : Int) ≤ k - 1 := by omega
                have j4 : k - 1 < s.loose.length := by omega
                have j5 : (k - 1).toNat = k.toNat - 1 := by omega
                have j6 : (1 : Int) ≤ k := by omega
                generalize hsl : s.loose.length = sl at *
                generalize hkn : k.toNat - 1 = kn at *
                clear hsx hlx hox hsd hld hod hs3 hs' hXl hsi hstep hidx hl hl64 hE2 hrdl fx
                go_wp2
                refine wp_region_S [(30, fun w => w.cell? ⟨x, 1, none⟩ = some (.slice (some ⟨gx.sb, 0, none⟩) ns ns) ∧ w.cell? ⟨e, 1, none⟩ = some (.slice (some ⟨gd.sb, 0, none⟩) ns ns) ∧ w.cell? ⟨gd.sb, idx * 3 + 1, none⟩ = some (.slice (some ⟨qb, qo, none⟩) sl ml) ∧ w.cell? ⟨qb, qo + kn, none⟩ = some (.string ⟨l.toArray⟩) ∧
                  w.cell? ⟨lb, lo + i * 2, none⟩ = some (.int .i64 idx) ∧ w.cell? ⟨fb, fo + i, none⟩ = some (.int .i64 k))] rfl ?_ ?_
                · simp only [List.mem_cons, List.not_mem_nil, or_false, forall_eq]
                  exact ⟨cx, cd, dl, cq, cl, cf⟩
                refine WS.takeP (i := 0) (v := ?_) rfl (by kernel_rfl) (by kernel_rfl) (by kernel_rfl) rfl (fun _ _ _ h => h) (by rfl) (fun w1 => ?_) ?_
                rotate_left 1
                · go_simp; try with_reducible rfl
                try simp only [Act.put, List.setIfInBounds_toArray, List.set_cons_zero, List.set_cons_succ]
                refine WS.takeP (i := 1) (v := ?_) rfl (by kernel_rfl) (by kernel_rfl) (by kernel_rfl) rfl (fun _ _ _ h => h) (by rfl) (fun w1 => ?_) ?_
                rotate_left 1
                · go_simp; try with_reducible rfl
                try simp only [Act.put, List.setIfInBounds_toArray, List.set_cons_zero, List.set_cons_succ]
                refine WS.takeP (i := 2) (v := ?_) rfl (by kernel_rfl) (by kernel_rfl) (by kernel_rfl) rfl (fun _ _ _ h => h) (by rfl) (fun w1 => ?_) ?_
                rotate_left 1
                · go_simp; try with_reducible rfl
                try simp only [Act.put, List.setIfInBounds_toArray, List.set_cons_zero, List.set_cons_succ]
                refine WS.takeR (i := 3) (v := ?_) (30) _ (by first | exact .head _ | exact .tail _ (.head _) | exact .tail _ (.tail _ (.head _))) rfl (by kernel_rfl) (by kernel_rfl) (by kernel_rfl) rfl (by kernel_rfl) rfl (fun _ _ _ h => h) (by rfl) (fun w1 hR => ?_) ?_
                rotate_left 1
                · (obtain ⟨r1, r2, r3, r4, r5, r6⟩ := hR); go_simp; try with_reducible rfl
                try simp only [Act.put, List.setIfInBounds_toArray, List.set_cons_zero, List.set_cons_succ]
                refine WS.takeP (i := 4) (v := ?_) rfl (by kernel_rfl) (by kernel_rfl) (by kernel_rfl) rfl (fun _ _ _ h => h) (by rfl) (fun w1 => ?_) ?_
                rotate_left 1
                · go_simp; try with_reducible rfl
                try simp only [Act.put, List.setIfInBounds_toArray, List.set_cons_zero, List.set_cons_succ]
                refine WS.takeP (i := 5) (v := ?_) rfl (by kernel_rfl) (by kernel_rfl) (by kernel_rfl) rfl (fun _ _ _ h => h) (by rfl) (fun w1 => ?_) ?_
                rotate_left 1
                · go_simp; try with_reducible rfl
                try simp only [Act.put, List.setIfInBounds_toArray, List.set_cons_zero, List.set_cons_succ]
                refine WS.takeP (i := 6) (v := ?_) rfl (by kernel_rfl) (by kernel_rfl) (by kernel_rfl) rfl (fun _ _ _ h => h) (by rfl) (fun w1 => ?_) ?_
                rotate_left 1
                · go_simp; try with_reducible rfl
                try simp only [Act.put, List.setIfInBounds_toArray, List.set_cons_zero, List.set_cons_succ]
                refine WS.takeP (i := 7) (v := ?_) rfl (by kernel_rfl) (by kernel_rfl) (by kernel_rfl) rfl (fun _ _ _ h => h) (by rfl) (fun w1 => ?_) ?_
                rotate_left 1
                · go_simp; try with_reducible rfl
                try simp only [Act.put, List.setIfInBounds_toArray, List.set_cons_zero, List.set_cons_succ]
                refine WS.takeR (i := 8) (v := ?_) (30) _ (by first | exact .head _ | exact .tail _ (.head _) | exact .tail _ (.tail _ (.head _))) rfl (by kernel_rfl) (by kernel_rfl) (by kernel_rfl) rfl (by kernel_rfl) rfl (fun _ _ _ h => h) (by rfl) (fun w1 hR => ?_) ?_
                rotate_left 1
                · (obtain ⟨r1, r2, r3, r4, r5, r6⟩ := hR); go_simp; try with_reducible rfl
                try simp only [Act.put, List.setIfInBounds_toArray, List.set_cons_zero, List.set_cons_succ]
                refine WS.takeP (i := 9) (v := ?_) rfl (by kernel_rfl) (by kernel_rfl) (by kernel_rfl) rfl (fun _ _ _ h => h) (by rfl) (fun w1 => ?_) ?_
                rotate_left 1
                · go_simp; try with_reducible rfl
                try simp only [Act.put, List.setIfInBounds_toArray, List.set_cons_zero, List.set_cons_succ]
                refine WS.takeP (i := 10) (v := ?_) rfl (by kernel_rfl) (by kernel_rfl) (by kernel_rfl) rfl (fun _ _ _ h => h) (by rfl) (fun w1 => ?_) ?_
                rotate_left 1
                · go_simp; try with_reducible rfl
                try simp only [Act.put, List.setIfInBounds_toArray, List.set_cons_zero, List.set_cons_succ]
                refine WS.takeP (i := 11) (v := ?_) rfl (by kernel_rfl) (by kernel_rfl) (by kernel_rfl) rfl (fun _ _ _ h => h) (by rfl) (fun w1 => ?_) ?_
                rotate_left 1
                · go_simp; try with_reducible rfl
                try simp only [Act.put, List.setIfInBounds_toArray, List.set_cons_zero, List.set_cons_succ]
                refine WS.takeR (i := 12) (v := ?_) (30) _ (by first | exact .head _ | exact .tail _ (.head _) | exact .tail _ (.tail _ (.head _))) rfl (by kernel_rfl) (by kernel_rfl) (by kernel_rfl) rfl (by kernel_rfl) rfl (fun _ _ _ h => h) (by rfl) (fun w1 hR => ?_) ?_
                rotate_left 1
                · (obtain ⟨r1, r2, r3, r4, r5, r6⟩ := hR); go_simp; try with_reducible rfl
                try simp only [Act.put, List.setIfInBounds_toArray, List.set_cons_zero, List.set_cons_succ]
                refine WS.takeP (i := 13) (v := ?_) rfl (by kernel_rfl) (by kernel_rfl) (by kernel_rfl) rfl (fun _ _ _ h => h) (by rfl) (fun w1 => ?_) ?_
                rotate_left 1
                · go_simp; try with_reducible rfl
                try simp only [Act.put, List.setIfInBounds_toArray, List.set_cons_zero, List.set_cons_succ]
                refine WS.takeP (i := 14) (v := ?_) rfl (by kernel_rfl) (by kernel_rfl) (by kernel_rfl) rfl (fun _ _ _ h => h) (by rfl) (fun w1 => ?_) ?_
                rotate_left 1
                · go_simp; try with_reducible rfl
                try simp only [Act.put, List.setIfInBounds_toArray, List.set_cons_zero, List.set_cons_succ]
                refine WS.takeP (i := 15) (v := ?_) rfl (by kernel_rfl) (by kernel_rfl) (by kernel_rfl) rfl (fun _ _ _ h => h) (by rfl) (fun w1 => ?_) ?_
                rotate_left 1
                · go_simp; try with_reducible rfl
                try simp only [Act.put, List.setIfInBounds_toArray, List.set_cons_zero, List.set_cons_succ]
                refine WS.takeP (i := 16) (v := ?_) rfl (by kernel_rfl) (by kernel_rfl) (by kernel_rfl) rfl (fun _ _ _ h => h) (by rfl) (fun w1 => ?_) ?_
                rotate_left 1
                · go_simp; try with_reducible rfl
                try simp only [Act.put, List.setIfInBounds_toArray, List.set_cons_zero, List.set_cons_succ]
                refine WS.takeR (i := 17) (v := ?_) (30) _ (by first | exact .head _ | exact .tail _ (.head _) | exact .tail _ (.tail _ (.head _))) rfl (by kernel_rfl) (by kernel_rfl) (by kernel_rfl) rfl (by kernel_rfl) rfl (fun _ _ _ h => h) (by rfl) (fun w1 hR => ?_) ?_
                rotate_left 1
                · (obtain ⟨r1, r2, r3, r4, r5, r6⟩ := hR); go_simp; try with_reducible rfl
                try simp only [Act.put, List.setIfInBounds_toArray, List.set_cons_zero, List.set_cons_succ]
                refine WS.takeP (i := 18) (v := ?_) rfl (by kernel_rfl) (by kernel_rfl) (by kernel_rfl) rfl (fun _ _ _ h => h) (by rfl) (fun w1 => ?_) ?_
                rotate_left 1
                · go_simp; try with_reducible rfl
                try simp only [Act.put, List.setIfInBounds_toArray, List.set_cons_zero, List.set_cons_succ]
                refine WS.takeP (i := 19) (v := ?_) rfl (by kernel_rfl) (by kernel_rfl) (by kernel_rfl) rfl (fun _ _ _ h => h) (by rfl) (fun w1 => ?_) ?_
                rotate_left 1
                · go_simp; try with_reducible rfl
                try simp only [Act.put, List.setIfInBounds_toArray, List.set_cons_zero, List.set_cons_succ]
                refine WS.takeR (i := 20) (v := ?_) (30) _ (by first | exact .head _ | exact .tail _ (.head _) | exact .tail _ (.tail _ (.head _))) rfl (by kernel_rfl) (by kernel_rfl) (by kernel_rfl) rfl (by kernel_rfl) rfl (fun _ _ _ h => h) (by rfl) (fun w1 hR => ?_) ?_
                rotate_left 1
                · (obtain ⟨r1, r2, r3, r4, r5, r6⟩ := hR); go_simp; try with_reducible rfl
                try simp only [Act.put, List.setIfInBounds_toArray, List.set_cons_zero, List.set_cons_succ]
                refine WS.takeP (i := 21) (v := ?_) rfl (by kernel_rfl) (by kernel_rfl) (by kernel_rfl) rfl (fun _ _ _ h => h) (by rfl) (fun w1 => ?_) ?_
                rotate_left 1
                · go_simp; try with_reducible rfl
                try simp only [Act.put, List.setIfInBounds_toArray, List.set_cons_zero, List.set_cons_succ]
                refine WS.takeP (i := 22) (v := ?_) rfl (by kernel_rfl) (by kernel_rfl) (by kernel_rfl) rfl (fun _ _ _ h => h) (by rfl) (fun w1 => ?_) ?_
                rotate_left 1
                · go_simp; try with_reducible rfl
                try simp only [Act.put, List.setIfInBounds_toArray, List.set_cons_zero, List.set_cons_succ]
                refine WS.takeP (i := 23) (v := ?_) rfl (by kernel_rfl) (by kernel_rfl) (by kernel_rfl) rfl (fun _ _ _ h => h) (by rfl) (fun w1 => ?_) ?_
                rotate_left 1
                · go_simp; try with_reducible rfl
                try simp only [Act.put, List.setIfInBounds_toArray, List.set_cons_zero, List.set_cons_succ]
                refine WS.takeR (i := 24) (v := ?_) (30) _ (by first | exact .head _ | exact .tail _ (.head _) | exact .tail _ (.tail _ (.head _))) rfl (by kernel_rfl) (by kernel_rfl) (by kernel_rfl) rfl (by kernel_rfl) rfl (fun _ _ _ h => h) (by rfl) (fun w1 hR => ?_) ?_
                rotate_left 1
                · (obtain ⟨r1, r2, r3, r4, r5, r6⟩ := hR); go_simp; try with_reducible rfl
                try simp only [Act.put, List.setIfInBounds_toArray, List.set_cons_zero, List.set_cons_succ]
                refine WS.takeP (i := 25) (v := ?_) rfl (by kernel_rfl) (by kernel_rfl) (by kernel_rfl) rfl (fun _ _ _ h => h) (by rfl) (fun w1 => ?_) ?_
                rotate_left 1
                · go_simp; try with_reducible rfl
                try simp only [Act.put, List.setIfInBounds_toArray, List.set_cons_zero, List.set_cons_succ]
                refine WS.takeP (i := 26) (v := ?_) rfl (by kernel_rfl) (by kernel_rfl) (by kernel_rfl) rfl (fun _ _ _ h => h) (by rfl) (fun w1 => ?_) ?_
                rotate_left 1
                · go_simp; try with_reducible rfl
                try simp only [Act.put, List.setIfInBounds_toArray, List.set_cons_zero, List.set_cons_succ]
                refine WS.takeR (i := 27) (v := ?_) (30) _ (by first | exact .head _ | exact .tail _ (.head _) | exact .tail _ (.tail _ (.head _))) rfl (by kernel_rfl) (by kernel_rfl) (by kernel_rfl) rfl (by kernel_rfl) rfl (fun _ _ _ h => h) (by rfl) (fun w1 hR => ?_) ?_
                rotate_left 1
                · (obtain ⟨r1, r2, r3, r4, r5, r6⟩ := hR); go_simp; try with_reducible rfl
                try simp only [Act.put, List.setIfInBounds_toArray, List.set_cons_zero, List.set_cons_succ]
                refine WS.takeP (i := 28) (v := ?_) rfl (by kernel_rfl) (by kernel_rfl) (by kernel_rfl) rfl (fun _ _ _ h => h) (by rfl) (fun w1 => ?_) ?_
                rotate_left 1
                · go_simp; try with_reducible rfl
                try simp only [Act.put, List.setIfInBounds_toArray, List.set_cons_zero, List.set_cons_succ]
                refine WS.takeP (i := 29) (v := ?_) rfl (by kernel_rfl) (by kernel_rfl) (by kernel_rfl) rfl (fun _ _ _ h => h) (by rfl) (fun w1 => ?_) ?_
                rotate_left 1
                · go_simp; try with_reducible rfl
                try simp only [Act.put, List.setIfInBounds_toArray, List.set_cons_zero, List.set_cons_succ]
                refine WS.one (i := 30) rfl (by kernel_rfl) (by rfl) (fun K hK => ?_)
                go_simp
                refine hK _ _ (fun q hq hq2 => ?_) ?_
                · simp only [List.mem_cons, List.not_mem_nil, or_false] at hq
                  subst hq
                  revert hq2
                  simp
                refine WS.done (by kernel_rfl) ?_
                generalize (((wr.setCell ⟨gx.sb, idx * 3, none⟩ (.string ⟨l.toArray⟩)).setCell ⟨gx.sb, idx * 3 + 1, none⟩ (.slice none 0 0)).setCell ⟨gx.sb, idx * 3 + 2, none⟩ (.bool false)).drew = wz at hput ⊢
                clear x0 x1 x2 f0 f1 f2 cx cd dl cq cl cf
                go_wp2
                go_roundw
                case rel => exact ⟨i + 1, by go_num, by omega, hput⟩
                case measure => simp [intOf]; omega
              · have hs10 : S W0 wr (F * vecB 86 2 (.slice (some ⟨lb, lo, none⟩) nl lm) nl (flatL D.looseL) * rdevO e q D * rdevO x q2 ⟨D.fatesN fates (i + 1), 0, 0⟩) := by
                  rw [hstep, DevA.fateStep, if_neg hkp]; exact hs3
                clear hs3
                go_wp2
                go_roundw
                case rel => exact ⟨i + 1, by go_num, by omega, hs10⟩
                case measure => simp [intOf]; omega
            · have hinf : nf = i := by omega
              subst hinf
              go_wp2
              go_ret2
              refine .inr ⟨HE.out, _, rfl, ?_⟩
              unfold DevA.crashD
              rw [HNF.out]
              exact hs3.p2.left
end
end Go.Proofs.Ytnkjkkbjplneeaa
