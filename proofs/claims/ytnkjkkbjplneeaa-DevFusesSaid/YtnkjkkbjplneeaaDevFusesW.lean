/-
  DevFuses answers true.
-/
import Derived.Test.YtnkjkkbjplneeaaActs
namespace Go.Proofs.Ytnkjkkbjplneeaa
open Go.RowKit Go.SL
set_option maxRecDepth 100000
set_option linter.unusedSimpArgs false
set_option linter.unusedVariables false
/-- What a writing call on a device that is in order answers, and its power behind it. -/
def callE (p : PowA) : Int := if p.off = true then 80 else if p.spendB = false then 80 else 0
def callP (p : PowA) : PowA := if p.off = true then p else p.spendS
structure FuseI (N c : Nat) (p : PowA) : Prop where
  ok : p.ok
  le : c ≤ N
  small : N < 20
  on : p.off = false → p.fuse = (N : Int) - c
  offc : p.off = true → c = N
  done : p.done = c
theorem FuseI.call {N c : Nat} {p : PowA} (h : FuseI N c p) :
    (callE p = 0 ∧ c < N ∧ FuseI N (c + 1) (callP p) ∧ (callP p).off = false) ∨ (callE p = 80 ∧ c = N ∧ FuseI N c (callP p) ∧ (callP p).off = true) := by
  obtain ⟨⟨o1, o2⟩, h2, h3, h4, h5, h6⟩ := h
  cases hoff : p.off with
  | true =>
    right
    refine ⟨by simp [callE, hoff], h5 hoff, ⟨by simp [callP, hoff]; exact ⟨o1, o2⟩, h2, h3, ?_, ?_, ?_⟩, by simp [callP, hoff]⟩
    · simp [callP, hoff]
    · intro _; exact h5 hoff
    · simp [callP, hoff, h6]
  | false =>
    have hf := h4 hoff
    by_cases h0 : p.fuse = 0
    · right
      have hs : p.spendS = { p with off := true } := by simp [PowA.spendS, h0]
      have hc : c = N := by omega
      refine ⟨by simp [callE, hoff, PowA.spendB, h0], hc, ⟨?_, h2, h3, ?_, ?_, ?_⟩, ?_⟩
      · simp only [callP, hoff, hs]; exact ⟨o1, o2⟩
      · simp [callP, hoff, hs]
      · intro _; exact hc
      · simp [callP, hoff, hs, h6]
      · simp [callP, hoff, hs]
    · left
      have hp : 0 < p.fuse := by omega
      have hs : p.spendS = { p with fuse := p.fuse - 1, done := wrap64 (p.done + 1) } := by simp [PowA.spendS, h0, hp]
      have hw : wrap64 (p.done + 1) = c + 1 := by rw [h6]; unfold wrap64; omega
      refine ⟨by simp [callE, hoff, PowA.spendB, h0], by omega, ⟨?_, by omega, h3, ?_, ?_, ?_⟩, ?_⟩
      · simp only [callP, hoff, hs]; exact ⟨by simp; omega, by simp; omega⟩
      · intro _; simp [callP, hoff, hs]; omega
      · simp [callP, hoff, hs]
      · simp [callP, hoff, hs, hw]
      · simp [callP, hoff, hs]
structure DevI (i : Nat) (D : DevA) : Prop where
  len : D.secs.length = 4
  wr : D.writes = 0
  small : D.Small i
theorem DevI.flush {i : Nat} {D : DevA} (h : DevI i D) (p : PowA) : DevA.flushE p = callE p ∧ DevA.flushP p = callP p ∧ DevI i (DevA.flushS p D) := by
  refine ⟨rfl, rfl, ?_⟩
  unfold DevA.flushS
  split
  · exact h
  · split
    · exact h
    · refine ⟨by simpa using h.len, h.wr, fun s hs => ?_⟩
      obtain ⟨s', hs', rfl⟩ := List.mem_map.1 hs
      unfold flushed
      split
      · exact h.small s' hs'
      · simp
theorem DevI.write {i : Nat} {D : DevA} (h : DevI i D) (p : PowA) (at_ : Int) (h0 : 0 ≤ at_) (h1 : at_ < 4) (l : List UInt8) (hl : l.length = 64) : D.writeE p at_ l = callE p ∧ D.writeP p at_ l = callP p ∧ DevI (i + 1) (D.writeS p at_ l) := by
  have hh : D.has at_ = true := by simp [DevA.has, h.len]; omega
  have hm : DevI (i + 1) D := ⟨h.len, h.wr, fun s hs => Nat.le_succ_of_le (h.small s hs)⟩
  refine ⟨?_, ?_, ?_⟩
  · simp only [DevA.writeE, hh, hl, h.wr, callE]; simp
  · simp only [DevA.writeP, hh, hl, callP]; simp
  · simp only [DevA.writeS, hh, hl, h.wr]
    simp only [Bool.true_eq_false, if_false, ne_eq, not_true_eq_false, Nat.zero_mod, Nat.zero_div]
    split
    · exact hm
    · split
      · exact hm
      · simp only [Nat.reduceBEq, Bool.false_eq_true, if_false]
        refine ⟨by simpa using h.len, rfl, fun s hs => ?_⟩
        obtain ⟨j, hj, rfl⟩ := List.mem_iff_getElem.1 hs
        simp only [List.getElem_modify]
        split
        · simp only [DevA.addLoose, List.length_append, List.length_singleton]
          exact Nat.succ_le_succ (h.small _ (List.getElem_mem _))
        · exact Nat.le_succ_of_le (h.small _ (List.getElem_mem _))
theorem DevI.up {i j : Nat} {D : DevA} (h : DevI i D) (hij : i ≤ j) : DevI j D := ⟨h.len, h.wr, fun s hs => Nat.le_trans (h.small s hs) hij⟩
theorem DevI.new : DevI 0 (DevA.new 4) := ⟨rfl, rfl, fun s hs => by
  simp only [DevA.new, List.mem_replicate] at hs
  rw [hs.2]; decide⟩
section
variable (W : World)
/-- The state of the law's loop. -/
def FuseSt (g : TwoG) (i : Nat) (w : World) (p : PowA) : Prop := ∃ D0 D1, DevI i D0 ∧ DevI i D1 ∧ S W w (twoB g * powO g.pw p * devO g.d0 g.pw D0 * devO g.d1 g.pw D1)
theorem FuseSt.at {g : TwoG} {i : Nat} {w : World} {p : PowA} (h : FuseSt W g i w p) (of_ : Int) : ∃ (k d : Nat) (D : DevA) (R : HProp), of_ % 2 = (k : Int) ∧ k < 2 ∧ w.cell? ⟨g.t, 1 + k, none⟩ = some (.pointer (some ⟨d, 0, none⟩)) ∧ DevI i D ∧
    S W w (twoB g * R * powO g.pw p * devO d g.pw D) ∧ ∀ (w' : World) (j : Nat) (p' : PowA) (D' : DevA), i ≤ j → DevI j D' → S W w' (twoB g * R * powO g.pw p' * devO d g.pw D') →
      FuseSt W g j w' p' ∧ w'.cell? ⟨g.t, 1 + k, none⟩ = some (.pointer (some ⟨d, 0, none⟩)) := by
  obtain ⟨D0, D1, h0, h1, hs⟩ := h
  have up : ∀ {D : DevA} {i j : Nat}, i ≤ j → DevI i D → DevI j D := fun hij h => ⟨h.len, h.wr, fun s hs => Nat.le_trans (h.small s hs) hij⟩
  rcases (by omega : of_ % 2 = 0 ∨ of_ % 2 = 1) with hk | hk
  · refine ⟨0, g.d0, D0, devO g.d1 g.pw D1, hk, by omega, ?_, h0, hs.perm, fun w' j p' D' hij hD hs' => ⟨⟨D', D1, hD, up hij h1, hs'.perm⟩, ?_⟩⟩
    · have k := hs.p2
      have k' : S W w (powO g.pw p * devO g.d0 g.pw D0 * devO g.d1 g.pw D1 * twoB g) := hs.perm
      unfold twoB at k'
      exact cell_at k'.heap
    · have k' : S W w' (devO g.d1 g.pw D1 * powO g.pw p' * devO g.d0 g.pw D' * twoB g) := hs'.perm
      unfold twoB at k'
      exact cell_at k'.heap
  · refine ⟨1, g.d1, D1, devO g.d0 g.pw D0, hk, by omega, ?_, h1, hs.perm, fun w' j p' D' hij hD hs' => ⟨⟨D0, D', up hij h0, hD, hs'.perm⟩, ?_⟩⟩
    · have k' : S W w (powO g.pw p * devO g.d0 g.pw D0 * devO g.d1 g.pw D1 * twoB g) := hs.perm
      unfold twoB at k'
      exact cell_at k'.heap
    · have k' : S W w' (devO g.d0 g.pw D0 * powO g.pw p' * devO g.d1 g.pw D' * twoB g) := hs'.perm
      unfold twoB at k'
      exact cell_at k'.heap
theorem FuseSt.pw {g : TwoG} {i : Nat} {w : World} {p : PowA} (h : FuseSt W g i w p) : w.cell? ⟨g.t, 0, none⟩ = some (.pointer (some ⟨g.pw, 0, none⟩)) ∧ ∃ A, S W w (A * powO g.pw p) := by
  obtain ⟨D0, D1, h0, h1, hs⟩ := h
  have k' : S W w (powO g.pw p * devO g.d0 g.pw D0 * devO g.d1 g.pw D1 * twoB g) := hs.perm
  unfold twoB at k'
  exact ⟨cell_at k'.heap, twoB g * devO g.d0 g.pw D0 * devO g.d1 g.pw D1, hs.perm⟩
set_option maxHeartbeats 4000000 in
theorem DevFusesWalk (m : Nat) (hm : m < 256) (v : Value) (acts : List ActA) (ha : ActsAt W v acts) :
    Calls Try.prog 3 #[.int .u8 (m : Int), v] W fun e w' => e = .returned (.bool true) ∧ S W w' emp := by
  obtain ⟨ad, cap, rfl, hlen, hel⟩ := ha
  have hbeg := Law08Begin W W emp 4 4 (by omega) (by omega) (S.start W)
  go_enter Try.func3, Try.ntmps3
  go_wp2_with fail
  refine hbeg.mono ?_
  rintro e w1 ⟨g, rfl, hs1⟩
  have hs2 : S W w1 (twoB g * powO g.pw p0 * devO g.d0 g.pw (.new 4) * devO g.d1 g.pw (.new 4)) := by
    unfold sideD at hs1
    have h : S W w1 (twoB g * powO g.pw p0 * devO g.d0 g.pw (.new 4) * devO g.d1 g.pw (.new 4) * sideR g p0 (.new 4) (.new 4)) := by
      rw [← emp_star (twoB g * powO g.pw p0 * devO g.d0 g.pw (.new 4) * devO g.d1 g.pw (.new 4) * sideR g p0 (.new 4) (.new 4))]
      exact hs1.perm
    exact h.left
  have hst : FuseSt W g 0 w1 p0 := ⟨_, _, DevI.new, DevI.new, hs2⟩
  obtain ⟨c0, _⟩ := hst.pw
  have hf := PowFuse W w1 (twoB g * devO g.d0 g.pw (.new 4) * devO g.d1 g.pw (.new 4)) g.pw p0 ((m % 20 : Nat) : Int) hs2.perm
  clear hbeg hs1 hs2
  obtain ⟨N, hN⟩ : ∃ N : Nat, N = m % 20 := ⟨_, rfl⟩
  have hNm : (m : Int) % 20 = (N : Int) := by omega
  have hNlt : N < 20 := by omega
  rw [show ((m % 20 : Nat) : Int) = (m : Int) % 20 by omega] at hf
  have hE : p0.fuseE ((m : Int) % 20) = 0 := by
    rw [hNm]; simp only [PowA.fuseE, p0]; simp; omega
  have hP : p0.fuseS ((m : Int) % 20) = ⟨false, (N : Int), 0⟩ := by
    rw [hNm]; simp only [PowA.fuseS, p0]; simp; omega
  rw [hE, hP] at hf
  have hI : FuseI N 0 ⟨false, (N : Int), 0⟩ := ⟨⟨by simp only; omega, by simp only; omega⟩, by omega, hNlt, by simp, by simp, rfl⟩
  clear hE hP hst
  have HN := Lib.hid (⟨hN, hNm, hNlt⟩ : _ ∧ _ ∧ _)
  clear hN hNm hNlt
  go_wp2_with fail
  refine hf.mono ?_
  rintro e w2 ⟨rfl, hs3⟩
  have hst : FuseSt W g 0 w2 ⟨false, (N : Int), 0⟩ := ⟨_, _, DevI.new, DevI.new, hs3.perm⟩
  clear hf hs3 c0
  go_wp2
  generalize hL : acts.length = L at *
  have HL := Lib.hid hL
  have HE := Lib.hid hel
  clear hL hel
  go_loopw [7, 8] (fun vc vi wr => ∃ (c i : Nat) (p : PowA), vc = .int .i64 c ∧ vi = .int .i64 i ∧ i ≤ 40 ∧ FuseI N c p ∧ FuseSt W g (2 * i) wr p) (fun _ vi _ => 40 - (intOf vi).toNat)
  case atStart => exact ⟨0, 0, _, rfl, rfl, by omega, hI, hst⟩
  case round =>
    clear hI hst
    obtain ⟨c, i, p, rfl, rfl, hi, hI, hst⟩ := hrel
    by_cases hlt : i < L ∧ i < 40
    · obtain ⟨h1, h2⟩ := hlt
      obtain ⟨bb, oo, rfl, hbb, hcells⟩ := HE.out (fun h => by have := HL.out; rw [h] at this; simp at this; omega)
      obtain ⟨x, hx⟩ : ∃ x, acts[i]? = some x := ⟨acts[i]'(by rw [HL.out]; exact h1), by simp [HL.out, h1]⟩
      obtain ⟨hrow, hxok, _⟩ := hcells i x hx
      have hcx : ∀ (w : World) (A : HProp), S W w A → w.cell? ⟨bb, oo + i * 11 + 1, none⟩ = some (.int .i64 x.of_) ∧ w.cell? ⟨bb, oo + i * 11 + 2, none⟩ = some (.int .i64 x.at_) ∧ w.cell? ⟨bb, oo + i * 11 + 8, none⟩ = some (.int .u8 x.fill) := by
        intro w A h
        refine ⟨?_, ?_, ?_⟩
        · rw [S.old h hbb]; exact hrow 1 _ rfl
        · rw [S.old h hbb]; exact hrow 2 _ rfl
        · rw [S.old h hbb]; exact hrow 8 _ rfl
      have hfx : ((UInt8.ofNat x.fill.toNat).toNat : Int) = x.fill := by
        have := hxok.fill
        simp only [UInt8.toNat_ofNat']
        omega
      have hb1 := i64_and1 x.of_
      have hb3 := i64_and3 x.at_
      clear hrow hxok hcells hx
      obtain ⟨k, d, D, R, hk, hk2, ck, hD, hs, back⟩ := hst.at W x.of_
      have q0 := (hcx _ _ hs).1
      obtain ⟨f1, f2, hD1⟩ := hD.flush p
      have hfl := DevFlush W wr (twoB g * R) d g.pw D p hI.ok hs
      rw [f1, f2] at hfl
      have i0 : (0 : Int) ≤ i := by omega
      have i1 : (i : Int) < L := by omega
      have i2 : (i : Int) < 40 := by omega
      have k0 : (0 : Int) ≤ (k : Int) := by omega
      have k1 : (k : Int) < 2 := by omega
      rw [hk] at hb1
      clear hst hs f1 f2 hD
      generalize DevA.flushS p D = D1 at hfl hD1
      go_wp2_with fail
      refine hfl.mono ?_
      rintro e w3 ⟨rfl, hs4⟩
      obtain ⟨c0, A, hsA⟩ := (back w3 (2 * i) (callP p) D1 (Nat.le_refl _) hD1 hs4).1.pw
      have hdn := PowDown W w3 A g.pw _ hsA
      clear hfl hsA ck q0
      rcases hI.call with ⟨e1, e2, e3, e4⟩ | ⟨e1, e2, e3, e4⟩
      · rw [e4] at hdn
        rw [e1]
        have e5 : (c : Int) < (m : Int) % 20 := by have := HN.out.2.1; omega
        have hI1 := e3
        have HI1 := Lib.hid hI1
        go_wp2_with (first | (go_at_call 10; refine (hdn).mono ?_; rintro e w' ⟨rfl, rfl⟩))
        clear hdn c0 e5
        have q1 := (hcx _ _ hs4).2.1
        have q2 := (hcx _ _ hs4).2.2
        have ck2 := (back _ (2 * i) (callP p) D1 (Nat.le_refl _) hD1 hs4).2
        refine wp_region_S [(18, fun w => w.cell? ⟨g.t, 1 + k, none⟩ = some (.pointer (some ⟨d, 0, none⟩)) ∧ w.cell? ⟨bb, oo + i * 11 + 2, none⟩ = some (.int .i64 x.at_) ∧ w.cell? ⟨bb, oo + i * 11 + 8, none⟩ = some (.int .u8 x.fill))] rfl ?_ ?_
        · simp only [List.mem_cons, List.not_mem_nil, or_false, forall_eq]
          exact ⟨ck2, q1, q2⟩
        refine WS.takeP (i := 0) (v := ?_) rfl (by kernel_rfl) (by kernel_rfl) (by kernel_rfl) rfl (fun _ _ _ h => h) (by rfl) (fun w1 => ?_) ?_
        rotate_left 1
        · go_simp; try with_reducible rfl
        try simp only [Act.put, List.setIfInBounds_toArray, List.set_cons_zero, List.set_cons_succ]
        refine WS.takeP (i := 1) (v := ?_) rfl (by kernel_rfl) (by kernel_rfl) (by kernel_rfl) rfl (fun _ _ _ h => h) (by rfl) (fun w1 => ?_) ?_
        rotate_left 1
        · go_simp; try with_reducible rfl
        try simp only [Act.put, List.setIfInBounds_toArray, List.set_cons_zero, List.set_cons_succ]
        refine WS.takeP (i := 2) (v := ?_) rfl (by kernel_rfl) (by kernel_rfl) (by kernel_rfl) rfl (fun _ _ _ h => h) (by rfl) (fun w1 => ?_) ?_
        rotate_left 1
        · go_simp; try with_reducible rfl
        try simp only [Act.put, List.setIfInBounds_toArray, List.set_cons_zero, List.set_cons_succ]
        refine WS.takeP (i := 3) (v := ?_) rfl (by kernel_rfl) (by kernel_rfl) (by kernel_rfl) rfl (fun _ _ _ h => h) (by rfl) (fun w1 => ?_) ?_
        rotate_left 1
        · go_simp; try with_reducible rfl
        try simp only [Act.put, List.setIfInBounds_toArray, List.set_cons_zero, List.set_cons_succ]
        refine WS.takeP (i := 4) (v := ?_) rfl (by kernel_rfl) (by kernel_rfl) (by kernel_rfl) rfl (fun _ _ _ h => h) (by rfl) (fun w1 => ?_) ?_
        rotate_left 1
        · go_simp; try with_reducible rfl
        try simp only [Act.put, List.setIfInBounds_toArray, List.set_cons_zero, List.set_cons_succ]
        refine WS.takeR (i := 5) (v := ?_) (18) _ (by first | exact .head _ | exact .tail _ (.head _) | exact .tail _ (.tail _ (.head _))) rfl (by kernel_rfl) (by kernel_rfl) (by kernel_rfl) rfl (by kernel_rfl) rfl (fun _ _ _ h => h) (by rfl) (fun w1 hR => ?_) ?_
        rotate_left 1
        · (obtain ⟨r1, r2, r3⟩ := hR); go_simp; try with_reducible rfl
        try simp only [Act.put, List.setIfInBounds_toArray, List.set_cons_zero, List.set_cons_succ]
        refine WS.takeP (i := 6) (v := ?_) rfl (by kernel_rfl) (by kernel_rfl) (by kernel_rfl) rfl (fun _ _ _ h => h) (by rfl) (fun w1 => ?_) ?_
        rotate_left 1
        · go_simp; try with_reducible rfl
        try simp only [Act.put, List.setIfInBounds_toArray, List.set_cons_zero, List.set_cons_succ]
        refine WS.takeP (i := 7) (v := ?_) rfl (by kernel_rfl) (by kernel_rfl) (by kernel_rfl) rfl (fun _ _ _ h => h) (by rfl) (fun w1 => ?_) ?_
        rotate_left 1
        · go_simp; try with_reducible rfl
        try simp only [Act.put, List.setIfInBounds_toArray, List.set_cons_zero, List.set_cons_succ]
        refine WS.takeP (i := 8) (v := ?_) rfl (by kernel_rfl) (by kernel_rfl) (by kernel_rfl) rfl (fun _ _ _ h => h) (by rfl) (fun w1 => ?_) ?_
        rotate_left 1
        · go_simp; try with_reducible rfl
        try simp only [Act.put, List.setIfInBounds_toArray, List.set_cons_zero, List.set_cons_succ]
        refine WS.takeP (i := 9) (v := ?_) rfl (by kernel_rfl) (by kernel_rfl) (by kernel_rfl) rfl (fun _ _ _ h => h) (by rfl) (fun w1 => ?_) ?_
        rotate_left 1
        · go_simp; try with_reducible rfl
        try simp only [Act.put, List.setIfInBounds_toArray, List.set_cons_zero, List.set_cons_succ]
        refine WS.takeR (i := 10) (v := ?_) (18) _ (by first | exact .head _ | exact .tail _ (.head _) | exact .tail _ (.tail _ (.head _))) rfl (by kernel_rfl) (by kernel_rfl) (by kernel_rfl) rfl (by kernel_rfl) rfl (fun _ _ _ h => h) (by rfl) (fun w1 hR => ?_) ?_
        rotate_left 1
        · (obtain ⟨r1, r2, r3⟩ := hR); go_simp; try with_reducible rfl
        try simp only [Act.put, List.setIfInBounds_toArray, List.set_cons_zero, List.set_cons_succ]
        refine WS.takeP (i := 11) (v := ?_) rfl (by kernel_rfl) (by kernel_rfl) (by kernel_rfl) rfl (fun _ _ _ h => h) (by rfl) (fun w1 => ?_) ?_
        rotate_left 1
        · go_simp; try with_reducible rfl
        try simp only [Act.put, List.setIfInBounds_toArray, List.set_cons_zero, List.set_cons_succ]
        refine WS.takeP (i := 12) (v := ?_) rfl (by kernel_rfl) (by kernel_rfl) (by kernel_rfl) rfl (fun _ _ _ h => h) (by rfl) (fun w1 => ?_) ?_
        rotate_left 1
        · go_simp; try with_reducible rfl
        try simp only [Act.put, List.setIfInBounds_toArray, List.set_cons_zero, List.set_cons_succ]
        refine WS.takeP (i := 13) (v := ?_) rfl (by kernel_rfl) (by kernel_rfl) (by kernel_rfl) rfl (fun _ _ _ h => h) (by rfl) (fun w1 => ?_) ?_
        rotate_left 1
        · go_simp; try with_reducible rfl
        try simp only [Act.put, List.setIfInBounds_toArray, List.set_cons_zero, List.set_cons_succ]
        refine WS.takeP (i := 14) (v := ?_) rfl (by kernel_rfl) (by kernel_rfl) (by kernel_rfl) rfl (fun _ _ _ h => h) (by rfl) (fun w1 => ?_) ?_
        rotate_left 1
        · go_simp; try with_reducible rfl
        try simp only [Act.put, List.setIfInBounds_toArray, List.set_cons_zero, List.set_cons_succ]
        refine WS.takeP (i := 15) (v := ?_) rfl (by kernel_rfl) (by kernel_rfl) (by kernel_rfl) rfl (fun _ _ _ h => h) (by rfl) (fun w1 => ?_) ?_
        rotate_left 1
        · go_simp; try with_reducible rfl
        try simp only [Act.put, List.setIfInBounds_toArray, List.set_cons_zero, List.set_cons_succ]
        refine WS.takeR (i := 16) (v := ?_) (18) _ (by first | exact .head _ | exact .tail _ (.head _) | exact .tail _ (.tail _ (.head _))) rfl (by kernel_rfl) (by kernel_rfl) (by kernel_rfl) rfl (by kernel_rfl) rfl (fun _ _ _ h => h) (by rfl) (fun w1 hR => ?_) ?_
        rotate_left 1
        · (obtain ⟨r1, r2, r3⟩ := hR); go_simp; try with_reducible rfl
        try simp only [Act.put, List.setIfInBounds_toArray, List.set_cons_zero, List.set_cons_succ]
        refine WS.one (i := 17) rfl (by kernel_rfl) (by rfl) (fun K hK => ?_)
        go_simp
        have hfill := FillV W _ _ (UInt8.ofNat x.fill.toNat) 0 hs4.drew
        rw [hfx] at hfill
        refine hfill.mono ?_
        rintro e w4 ⟨v5, rfl, hs5⟩
        have hs6 : S W w4 (twoB g * R * bytesV v5 5 (fillB (UInt8.ofNat x.fill.toNat) 0) * powO g.pw (callP p) * devO d g.pw D1) := hs5.perm
        clear hfill hs5
        refine hK _ _ (fun q hq _ => ?_) ?_
        · simp only [List.mem_cons, List.not_mem_nil, or_false] at hq
          subst hq
          exact ⟨(back w4 (2 * i) (callP p) D1 (Nat.le_refl _) hD1 hs6.p2.left).2, (hcx _ _ hs6).2.1, (hcx _ _ hs6).2.2⟩
        have hl64 : (fillB (UInt8.ofNat x.fill.toNat) 0).length = 64 := by simp [fillB, fillN]
        obtain ⟨we, wp, wi⟩ := hD1.write (callP p) (x.at_ % 4) (by omega) (by omega) _ hl64
        have hwr := DevWrite W w4 (twoB g * R * bytesV v5 5 (fillB (UInt8.ofNat x.fill.toNat) 0)) d g.pw D1 (callP p) hI1.ok (fun s hs => Nat.le_trans (hD1.small s hs) (by omega)) (x.at_ % 4) v5 _ (fun w h => by unfold bytesV at h; exact h.reads) (by rw [hl64]; omega) hs6
        rw [we, wp] at hwr
        clear we wp hs6 hl64
        refine WS.one (i := 18) rfl (by kernel_rfl) (by rfl) (fun K hK => ?_)
        go_simp
        refine hwr.mono ?_
        rintro e w5 ⟨rfl, hs7⟩
        have hst2 := (back w5 (2 * (i + 1)) (callP (callP p)) _ (by omega) (wi.up (by omega)) hs7.p2.left).1
        clear hwr hs7
        refine hK _ _ (fun q hq hq2 => ?_) ?_
        · simp only [List.mem_cons, List.not_mem_nil, or_false] at hq
          subst hq
          revert hq2
          simp
        obtain ⟨c0, A, hsA⟩ := hst2.pw
        have hdn := PowDown W w5 A g.pw _ hsA
        clear hsA
        generalize hp2 : callP (callP p) = p2 at *
        rcases HI1.out.call with ⟨e1, e2, e3, e4⟩ | ⟨e1, e2, e3, e4⟩
        · rw [hp2] at e3 e4
          rw [e4] at hdn
          rw [e1]
          have e5 : (c : Int) + 1 < (m : Int) % 20 := by have := HN.out.2.1; omega
          refine WS.one (i := 19) rfl (by kernel_rfl) (by rfl) (fun K hK => ?_)
          go_simp
          refine hK _ _ (fun q hq hq2 => ?_) ?_
          · simp only [List.mem_cons, List.not_mem_nil, or_false] at hq
            subst hq
            revert hq2
            simp
          refine WS.done (by kernel_rfl) ?_
          go_wp2_with (first | (go_at_call 10; refine (hdn).mono ?_; rintro e w' ⟨rfl, rfl⟩))
          go_roundw
          case rel => exact ⟨(c + 1) + 1, i + 1, p2, by go_num, by go_num, by omega, e3, hst2⟩
          case measure => simp [intOf]; omega
        · rw [hp2] at e3 e4
          rw [e4] at hdn
          rw [e1]
          have e5 : ¬ (c : Int) + 1 < (m : Int) % 20 := by have := HN.out.2.1; omega
          refine WS.one (i := 19) rfl (by kernel_rfl) (by rfl) (fun K hK => ?_)
          go_simp
          refine hK _ _ (fun q hq hq2 => ?_) ?_
          · simp only [List.mem_cons, List.not_mem_nil, or_false] at hq
            subst hq
            revert hq2
            simp
          refine WS.done (by kernel_rfl) ?_
          go_wp2_with (first | (go_at_call 10; refine (hdn).mono ?_; rintro e w' ⟨rfl, rfl⟩))
          go_roundw
          case rel => exact ⟨(c + 1), i + 1, p2, by go_num, by go_num, by omega, e3, hst2⟩
          case measure => simp [intOf]; omega
      · rw [e4] at hdn
        rw [e1]
        have e5 : ¬ (c : Int) < (m : Int) % 20 := by have := HN.out.2.1; omega
        have hI1 := e3
        have HI1 := Lib.hid hI1
        go_wp2_with (first | (go_at_call 10; refine (hdn).mono ?_; rintro e w' ⟨rfl, rfl⟩))
        clear hdn c0 e5
        have q1 := (hcx _ _ hs4).2.1
        have q2 := (hcx _ _ hs4).2.2
        have ck2 := (back _ (2 * i) (callP p) D1 (Nat.le_refl _) hD1 hs4).2
        refine wp_region_S [(18, fun w => w.cell? ⟨g.t, 1 + k, none⟩ = some (.pointer (some ⟨d, 0, none⟩)) ∧ w.cell? ⟨bb, oo + i * 11 + 2, none⟩ = some (.int .i64 x.at_) ∧ w.cell? ⟨bb, oo + i * 11 + 8, none⟩ = some (.int .u8 x.fill))] rfl ?_ ?_
        · simp only [List.mem_cons, List.not_mem_nil, or_false, forall_eq]
          exact ⟨ck2, q1, q2⟩
        refine WS.takeP (i := 0) (v := ?_) rfl (by kernel_rfl) (by kernel_rfl) (by kernel_rfl) rfl (fun _ _ _ h => h) (by rfl) (fun w1 => ?_) ?_
        rotate_left 1
        · go_simp; try with_reducible rfl
        try simp only [Act.put, List.setIfInBounds_toArray, List.set_cons_zero, List.set_cons_succ]
        refine WS.takeP (i := 1) (v := ?_) rfl (by kernel_rfl) (by kernel_rfl) (by kernel_rfl) rfl (fun _ _ _ h => h) (by rfl) (fun w1 => ?_) ?_
        rotate_left 1
        · go_simp; try with_reducible rfl
        try simp only [Act.put, List.setIfInBounds_toArray, List.set_cons_zero, List.set_cons_succ]
        refine WS.takeP (i := 2) (v := ?_) rfl (by kernel_rfl) (by kernel_rfl) (by kernel_rfl) rfl (fun _ _ _ h => h) (by rfl) (fun w1 => ?_) ?_
        rotate_left 1
        · go_simp; try with_reducible rfl
        try simp only [Act.put, List.setIfInBounds_toArray, List.set_cons_zero, List.set_cons_succ]
        refine WS.takeP (i := 3) (v := ?_) rfl (by kernel_rfl) (by kernel_rfl) (by kernel_rfl) rfl (fun _ _ _ h => h) (by rfl) (fun w1 => ?_) ?_
        rotate_left 1
        · go_simp; try with_reducible rfl
        try simp only [Act.put, List.setIfInBounds_toArray, List.set_cons_zero, List.set_cons_succ]
        refine WS.takeP (i := 4) (v := ?_) rfl (by kernel_rfl) (by kernel_rfl) (by kernel_rfl) rfl (fun _ _ _ h => h) (by rfl) (fun w1 => ?_) ?_
        rotate_left 1
        · go_simp; try with_reducible rfl
        try simp only [Act.put, List.setIfInBounds_toArray, List.set_cons_zero, List.set_cons_succ]
        refine WS.takeR (i := 5) (v := ?_) (18) _ (by first | exact .head _ | exact .tail _ (.head _) | exact .tail _ (.tail _ (.head _))) rfl (by kernel_rfl) (by kernel_rfl) (by kernel_rfl) rfl (by kernel_rfl) rfl (fun _ _ _ h => h) (by rfl) (fun w1 hR => ?_) ?_
        rotate_left 1
        · (obtain ⟨r1, r2, r3⟩ := hR); go_simp; try with_reducible rfl
        try simp only [Act.put, List.setIfInBounds_toArray, List.set_cons_zero, List.set_cons_succ]
        refine WS.takeP (i := 6) (v := ?_) rfl (by kernel_rfl) (by kernel_rfl) (by kernel_rfl) rfl (fun _ _ _ h => h) (by rfl) (fun w1 => ?_) ?_
        rotate_left 1
        · go_simp; try with_reducible rfl
        try simp only [Act.put, List.setIfInBounds_toArray, List.set_cons_zero, List.set_cons_succ]
        refine WS.takeP (i := 7) (v := ?_) rfl (by kernel_rfl) (by kernel_rfl) (by kernel_rfl) rfl (fun _ _ _ h => h) (by rfl) (fun w1 => ?_) ?_
        rotate_left 1
        · go_simp; try with_reducible rfl
        try simp only [Act.put, List.setIfInBounds_toArray, List.set_cons_zero, List.set_cons_succ]
        refine WS.takeP (i := 8) (v := ?_) rfl (by kernel_rfl) (by kernel_rfl) (by kernel_rfl) rfl (fun _ _ _ h => h) (by rfl) (fun w1 => ?_) ?_
        rotate_left 1
        · go_simp; try with_reducible rfl
        try simp only [Act.put, List.setIfInBounds_toArray, List.set_cons_zero, List.set_cons_succ]
        refine WS.takeP (i := 9) (v := ?_) rfl (by kernel_rfl) (by kernel_rfl) (by kernel_rfl) rfl (fun _ _ _ h => h) (by rfl) (fun w1 => ?_) ?_
        rotate_left 1
        · go_simp; try with_reducible rfl
        try simp only [Act.put, List.setIfInBounds_toArray, List.set_cons_zero, List.set_cons_succ]
        refine WS.takeR (i := 10) (v := ?_) (18) _ (by first | exact .head _ | exact .tail _ (.head _) | exact .tail _ (.tail _ (.head _))) rfl (by kernel_rfl) (by kernel_rfl) (by kernel_rfl) rfl (by kernel_rfl) rfl (fun _ _ _ h => h) (by rfl) (fun w1 hR => ?_) ?_
        rotate_left 1
        · (obtain ⟨r1, r2, r3⟩ := hR); go_simp; try with_reducible rfl
        try simp only [Act.put, List.setIfInBounds_toArray, List.set_cons_zero, List.set_cons_succ]
        refine WS.takeP (i := 11) (v := ?_) rfl (by kernel_rfl) (by kernel_rfl) (by kernel_rfl) rfl (fun _ _ _ h => h) (by rfl) (fun w1 => ?_) ?_
        rotate_left 1
        · go_simp; try with_reducible rfl
        try simp only [Act.put, List.setIfInBounds_toArray, List.set_cons_zero, List.set_cons_succ]
        refine WS.takeP (i := 12) (v := ?_) rfl (by kernel_rfl) (by kernel_rfl) (by kernel_rfl) rfl (fun _ _ _ h => h) (by rfl) (fun w1 => ?_) ?_
        rotate_left 1
        · go_simp; try with_reducible rfl
        try simp only [Act.put, List.setIfInBounds_toArray, List.set_cons_zero, List.set_cons_succ]
        refine WS.takeP (i := 13) (v := ?_) rfl (by kernel_rfl) (by kernel_rfl) (by kernel_rfl) rfl (fun _ _ _ h => h) (by rfl) (fun w1 => ?_) ?_
        rotate_left 1
        · go_simp; try with_reducible rfl
        try simp only [Act.put, List.setIfInBounds_toArray, List.set_cons_zero, List.set_cons_succ]
        refine WS.takeP (i := 14) (v := ?_) rfl (by kernel_rfl) (by kernel_rfl) (by kernel_rfl) rfl (fun _ _ _ h => h) (by rfl) (fun w1 => ?_) ?_
        rotate_left 1
        · go_simp; try with_reducible rfl
        try simp only [Act.put, List.setIfInBounds_toArray, List.set_cons_zero, List.set_cons_succ]
        refine WS.takeP (i := 15) (v := ?_) rfl (by kernel_rfl) (by kernel_rfl) (by kernel_rfl) rfl (fun _ _ _ h => h) (by rfl) (fun w1 => ?_) ?_
        rotate_left 1
        · go_simp; try with_reducible rfl
        try simp only [Act.put, List.setIfInBounds_toArray, List.set_cons_zero, List.set_cons_succ]
        refine WS.takeR (i := 16) (v := ?_) (18) _ (by first | exact .head _ | exact .tail _ (.head _) | exact .tail _ (.tail _ (.head _))) rfl (by kernel_rfl) (by kernel_rfl) (by kernel_rfl) rfl (by kernel_rfl) rfl (fun _ _ _ h => h) (by rfl) (fun w1 hR => ?_) ?_
        rotate_left 1
        · (obtain ⟨r1, r2, r3⟩ := hR); go_simp; try with_reducible rfl
        try simp only [Act.put, List.setIfInBounds_toArray, List.set_cons_zero, List.set_cons_succ]
        refine WS.one (i := 17) rfl (by kernel_rfl) (by rfl) (fun K hK => ?_)
        go_simp
        have hfill := FillV W _ _ (UInt8.ofNat x.fill.toNat) 0 hs4.drew
        rw [hfx] at hfill
        refine hfill.mono ?_
        rintro e w4 ⟨v5, rfl, hs5⟩
        have hs6 : S W w4 (twoB g * R * bytesV v5 5 (fillB (UInt8.ofNat x.fill.toNat) 0) * powO g.pw (callP p) * devO d g.pw D1) := hs5.perm
        clear hfill hs5
        refine hK _ _ (fun q hq _ => ?_) ?_
        · simp only [List.mem_cons, List.not_mem_nil, or_false] at hq
          subst hq
          exact ⟨(back w4 (2 * i) (callP p) D1 (Nat.le_refl _) hD1 hs6.p2.left).2, (hcx _ _ hs6).2.1, (hcx _ _ hs6).2.2⟩
        have hl64 : (fillB (UInt8.ofNat x.fill.toNat) 0).length = 64 := by simp [fillB, fillN]
        obtain ⟨we, wp, wi⟩ := hD1.write (callP p) (x.at_ % 4) (by omega) (by omega) _ hl64
        have hwr := DevWrite W w4 (twoB g * R * bytesV v5 5 (fillB (UInt8.ofNat x.fill.toNat) 0)) d g.pw D1 (callP p) hI1.ok (fun s hs => Nat.le_trans (hD1.small s hs) (by omega)) (x.at_ % 4) v5 _ (fun w h => by unfold bytesV at h; exact h.reads) (by rw [hl64]; omega) hs6
        rw [we, wp] at hwr
        clear we wp hs6 hl64
        refine WS.one (i := 18) rfl (by kernel_rfl) (by rfl) (fun K hK => ?_)
        go_simp
        refine hwr.mono ?_
        rintro e w5 ⟨rfl, hs7⟩
        have hst2 := (back w5 (2 * (i + 1)) (callP (callP p)) _ (by omega) (wi.up (by omega)) hs7.p2.left).1
        clear hwr hs7
        refine hK _ _ (fun q hq hq2 => ?_) ?_
        · simp only [List.mem_cons, List.not_mem_nil, or_false] at hq
          subst hq
          revert hq2
          simp
        obtain ⟨c0, A, hsA⟩ := hst2.pw
        have hdn := PowDown W w5 A g.pw _ hsA
        clear hsA
        generalize hp2 : callP (callP p) = p2 at *
        rcases HI1.out.call with ⟨e1, e2, e3, e4⟩ | ⟨e1, e2, e3, e4⟩
        · exfalso
          omega
        · rw [hp2] at e3 e4
          rw [e4] at hdn
          rw [e1]
          have e5 : ¬ (c : Int) < (m : Int) % 20 := by have := HN.out.2.1; omega
          refine WS.one (i := 19) rfl (by kernel_rfl) (by rfl) (fun K hK => ?_)
          go_simp
          refine hK _ _ (fun q hq hq2 => ?_) ?_
          · simp only [List.mem_cons, List.not_mem_nil, or_false] at hq
            subst hq
            revert hq2
            simp
          refine WS.done (by kernel_rfl) ?_
          go_wp2_with (first | (go_at_call 10; refine (hdn).mono ?_; rintro e w' ⟨rfl, rfl⟩))
          go_roundw
          case rel => exact ⟨c, i + 1, p2, by go_num, by go_num, by omega, e3, hst2⟩
          case measure => simp [intOf]; omega
    · obtain ⟨c0, A, hs4⟩ := hst.pw
      have hdone := PowDone W wr A g.pw p hs4
      have haw := Law08Awake W wr emp (S.to hs4 (emp_star _).symm).left
      rw [hI.done] at hdone
      clear hs4 hst hI
      by_cases h1 : i < L
      · have h2 : ¬ i < 40 := fun h => hlt ⟨h1, h⟩
        go_wp2_with (first | (go_at_call 13; refine (hdone).mono ?_; rintro e w' ⟨rfl, rfl⟩) | (go_at_call 14; refine (haw).mono ?_; rintro e w' ⟨rfl, hs5⟩))
        go_ret
        exact ⟨rfl, hs5⟩
      ·
        go_wp2_with (first | (go_at_call 13; refine (hdone).mono ?_; rintro e w' ⟨rfl, rfl⟩) | (go_at_call 14; refine (haw).mono ?_; rintro e w' ⟨rfl, hs5⟩))
        go_ret
        exact ⟨rfl, hs5⟩
end
end Go.Proofs.Ytnkjkkbjplneeaa
