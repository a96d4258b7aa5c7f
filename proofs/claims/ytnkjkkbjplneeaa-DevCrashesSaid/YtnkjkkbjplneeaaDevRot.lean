/-
  What Rot does.
-/
import Derived.Test.YtnkjkkbjplneeaaTurn
import Derived.Test.YtnkjkkbjplneeaaBytesEq
import Derived.Test.YtnkjkkbjplneeaaDev3
namespace Go.Proofs.Ytnkjkkbjplneeaa
open Go.RowKit Go.SL
set_option maxRecDepth 100000
set_option linter.unusedSimpArgs false
set_option linter.unusedVariables false
namespace DevA
def secAt (D : DevA) (at_ : Int) : Sec := (D.secs[at_.toNat]?).getD ⟨[], [], false⟩
def rotL (D : DevA) (at_ : Int) (bit turn : Int) : List UInt8 := turnN (D.secAt at_).fixed bit.toNat turn.toNat 32
def rotE (D : DevA) (at_ bit turn : Int) : Int :=
  if D.has at_ = false then 3 else if bit < 0 then 3 else if 512 ≤ bit then 3 else if (D.secAt at_).rotten = true then 6 else if (D.secAt at_).loose ≠ [] then 6 else if D.rotL at_ bit turn = (D.secAt at_).fixed then 1 else 0
def rotS (D : DevA) (at_ bit turn : Int) : DevA := if D.rotE at_ bit turn = 0 then { D with secs := D.secs.set at_.toNat ⟨D.rotL at_ bit turn, [], true⟩ } else D
end DevA
theorem looseO_shape {W0 w : World} {F : HProp} {lv : Option Value} {ls : List (List UInt8)} (h : S W0 w (F * looseO lv ls)) : ∃ ad m, lv.getD (.slice none 0 0) = .slice ad ls.length m ∧ ls.length ≤ maxLen := by
  obtain ⟨vs, _, _, h1⟩ := looseO.open h
  rcases S.vec h1.left with ⟨e, h0, _⟩ | ⟨g, m, _, e, _, _, h3, h4, _⟩
  · rw [e, h0]; exact ⟨_, _, rfl, by simp [maxLen]⟩
  · rw [e]; exact ⟨_, _, rfl, by omega⟩
section
variable (W0 w : World) (F : HProp) (b pw : Nat) (D : DevA)
set_option maxHeartbeats 2000000 in
theorem DevRot (at_ bit turn : Int) (ht : 0 ≤ turn ∧ turn ≤ 4294967295) (hs : S W0 w (F * devO b pw D)) :
    Calls Try.prog 28 #[.pointer (some ⟨b, 0, none⟩), .int .i64 at_, .int .i64 bit, .int .u32 turn] w fun e w' => e = .returned (.int .i64 (D.rotE at_ bit turn)) ∧ S W0 w' (F * devO b pw (D.rotS at_ bit turn)) := by
  have hreal := DevReal W0 w F b pw D hs
  have hhas := DevHas W0 w F b pw D at_ hs
  unfold DevA.rotS DevA.rotE
  cases h1 : D.has at_ with
  | false =>
    rw [h1] at hhas
    simp only [if_true]
    go_enter Try.func28, Try.ntmps28
    go_wp2_with (first | (go_at_call 45; refine (hreal).mono ?_; rintro e w' ⟨rfl, rfl⟩) | (go_at_call 34; refine (hhas).mono ?_; rintro e w' ⟨rfl, rfl⟩))
    go_ret
    exact ⟨rfl, hs⟩
  | true =>
    rw [h1] at hhas
    simp only [Bool.true_eq_false, if_false]
    by_cases h2 : bit < 0
    · simp only [h2, if_true]
      go_enter Try.func28, Try.ntmps28
      go_wp2_with (first | (go_at_call 45; refine (hreal).mono ?_; rintro e w' ⟨rfl, rfl⟩) | (go_at_call 34; refine (hhas).mono ?_; rintro e w' ⟨rfl, rfl⟩))
      go_ret
      exact ⟨rfl, hs⟩
    simp only [h2, if_false]
    by_cases h3 : 512 ≤ bit
    · simp only [h3, if_true]
      go_enter Try.func28, Try.ntmps28
      go_wp2_with (first | (go_at_call 45; refine (hreal).mono ?_; rintro e w' ⟨rfl, rfl⟩) | (go_at_call 34; refine (hhas).mono ?_; rintro e w' ⟨rfl, rfl⟩))
      go_ret
      exact ⟨rfl, hs⟩
    simp only [h3, if_false]
    obtain ⟨i, s, rfl, hi, _⟩ := has_get h1
    have hsec : D.secAt (i : Int) = s := by simp [DevA.secAt, hi]
    have hrat : D.rottenAt (i : Int) = s.rotten := by simp [DevA.rottenAt, hi]
    rw [hsec]
    unfold DevA.rotL
    rw [hsec]
    clear hsec h1
    obtain ⟨g, ho, hsg⟩ := devO.open hs
    obtain ⟨c0, c1, c2, c3, c4, c5, fr⟩ := devG.cells hsg
    obtain ⟨esr, clockr, hmr, hk0⟩ := S.map (devG.top hsg).p3
    have hlr := run_lookup_rot w D ho hk0.heap hmr (i : Int)
    rw [hrat] at hlr
    obtain ⟨fv, lv, e1, e2, k1⟩ := devG.sec hsg ho (i := i) (s := s) hi
    have hkv := ho.2.2.1 (i : Int)
    simp [e2] at hkv
    obtain ⟨es, clock, hmo, k2⟩ := S.map k1.p4
    have hlk := run_lookup_dev k2.heap hmo (i : Int) hkv
    unfold secO at k1
    obtain ⟨lad, lm, hsh, hll⟩ := looseO_shape k1.assoc
    rw [hsh] at hlk
    have hle : s.fixed.length = 64 := (ho.2.2.2.2.2.2.2 s (List.mem_of_getElem? hi)).1
    cases h4 : s.rotten with
    | true =>
      rw [h4] at hlr
      simp only [if_true] at hlr ⊢
      clear hmo hmr hk0 k1 k2 ho hsg hkv e1 e2 hi hsh hrat
      go_enter Try.func28, Try.ntmps28
      go_wp2_with (first | (go_at_call 45; refine (hreal).mono ?_; rintro e w' ⟨rfl, rfl⟩) | (go_at_call 34; refine (hhas).mono ?_; rintro e w' ⟨rfl, rfl⟩))
      go_ret
      exact ⟨rfl, hs⟩
    | false =>
      rw [h4] at hlr
      simp only [Bool.false_eq_true, if_false] at hlr ⊢
      by_cases h5 : s.loose = []
      rotate_left
      · have hpos : 0 < s.loose.length := by cases hx : s.loose with | nil => exact absurd hx h5 | cons a l => simp
        simp only [ne_eq, h5, not_false_eq_true, if_true]
        generalize s.loose.length = n at *
        have hn : ((0 : Int) < n) = True := by simp; omega
        have hn2 : (n : Int) ≤ 9223372036854775807 := by simp only [maxLen] at hll; omega
        clear hmo hmr hk0 k1 k2 ho hsg hkv e1 e2 hi hsh hrat hll hle h5
        go_enter Try.func28, Try.ntmps28
        go_wp2_with (first | (go_at_call 45; refine (hreal).mono ?_; rintro e w' ⟨rfl, rfl⟩) | (go_at_call 34; refine (hhas).mono ?_; rintro e w' ⟨rfl, rfl⟩))
        go_ret
        exact ⟨rfl, hs⟩
      simp only [ne_eq, h5, not_true_eq_false, if_false]
      rw [h5] at hlk
      simp only [List.length_nil] at hlk
      obtain ⟨bn, rfl⟩ := Int.eq_ofNat_of_zero_le (show 0 ≤ bit by omega)
      obtain ⟨tn, rfl⟩ := Int.eq_ofNat_of_zero_le ht.1
      simp only [Int.toNat_natCast] at *
      have cf : w.cell? ⟨g.fb, i, none⟩ = some fv := by rw [cell_at k1.p3.heap]; simpa using e1
      have hlt : i < D.secs.length := (List.getElem?_eq_some_iff.1 hi).1
      have i0 : (0 : Int) ≤ i := by omega
      have i1 : (i : Int) < D.secs.length := by omega
      have hturn := CrcTurn W0 w _ fv s.fixed bn tn (by omega) (by omega) (by omega) (fun w h => S.reads (S.left h)) k1.assoc
      obtain ⟨tl, htl⟩ : ∃ tl, tl = turnN s.fixed bn tn 32 := ⟨_, rfl⟩
      have htlen : tl.length = 64 := by rw [htl, turnN_length, hle]
      rw [← htl] at hturn
      simp only [← htl]
      have H1 := Lib.hid (⟨hle, htlen, h5, htl, e1, e2, hsh⟩ : _ ∧ _ ∧ _ ∧ _ ∧ _ ∧ _ ∧ _)
      have H2 := Lib.hid (⟨ho, hkv, hi, h4⟩ : _ ∧ _ ∧ _ ∧ _)
      have h1b : ((bn : Int) < 0) = False := by simp
      clear hmo hmr hk0 k1 k2 hsg hrat hll hle h5 htl htlen e1 e2 hsh ho hkv hi h4 hs
      by_cases h6 : tl = s.fixed
      · simp only [h6, if_true]
        have H6 := Lib.hid h6
        clear h6
        go_enter Try.func28, Try.ntmps28
        go_wp2_with (first | (go_at_call 45; refine (hreal).mono ?_; rintro e w' ⟨rfl, rfl⟩) | (go_at_call 34; refine (hhas).mono ?_; rintro e w' ⟨rfl, rfl⟩))
        refine hturn.mono ?_
        rintro e w1 ⟨v1, rfl, hs1⟩
        have heq := BytesEqual w1 v1 fv tl s.fixed (S.reads hs1) (S.reads hs1.left.left)
        rw [decide_eq_true H6.out] at heq
        have c1' : w1.cell? ⟨b, 1, none⟩ = some (.slice (some ⟨g.fb, 0, none⟩) D.secs.length D.secs.length) := cell_at hs1.p4.heap
        have cf' : w1.cell? ⟨g.fb, i, none⟩ = some fv := by rw [cell_at hs1.p5.heap]; simpa using H1.out.2.2.2.2.1
        go_wp2_with (first | (go_at_call 51; refine (heq).mono ?_; rintro e w' ⟨rfl, nq, rfl⟩))
        go_ret
        refine ⟨rfl, drewN_S _ (devO.shut (devG.unsec (g := g) (D := D) (i := i) (fv := fv) (lv := lv) (s := s) H2.out.1.1 H2.out.1.2.1 hlt ?_ ?_ ?_ ?_) H2.out.1)⟩
        · obtain ⟨q, e⟩ := List.getElem?_eq_some_iff.1 H1.out.2.2.2.2.1
          rw [← e, List.set_getElem_self]
        · obtain ⟨q, e⟩ := List.getElem?_eq_some_iff.1 H1.out.2.2.2.2.2.1
          rw [← e, List.set_getElem_self]
        · obtain ⟨q, e⟩ := List.getElem?_eq_some_iff.1 H2.out.2.2.1
          rw [← e, List.set_getElem_self]
        · exact S.unassoc hs1.left
      · simp only [h6, if_false]
        have H6 := Lib.hid h6
        clear h6
        go_enter Try.func28, Try.ntmps28
        go_wp2_with (first | (go_at_call 45; refine (hreal).mono ?_; rintro e w' ⟨rfl, rfl⟩) | (go_at_call 34; refine (hhas).mono ?_; rintro e w' ⟨rfl, rfl⟩))
        refine hturn.mono ?_
        rintro e w1 ⟨v1, rfl, hs1⟩
        have heq := BytesEqual w1 v1 fv tl s.fixed (S.reads hs1) (S.reads hs1.left.left)
        rw [decide_eq_false H6.out] at heq
        have c1' : w1.cell? ⟨b, 1, none⟩ = some (.slice (some ⟨g.fb, 0, none⟩) D.secs.length D.secs.length) := cell_at hs1.p4.heap
        have cf' : w1.cell? ⟨g.fb, i, none⟩ = some fv := by rw [cell_at hs1.p5.heap]; simpa using H1.out.2.2.2.2.1
        obtain ⟨av, nv, mv, rfl⟩ : ∃ av nv mv, v1 = .slice av nv mv := by
          rcases S.vec hs1 with ⟨rfl, _⟩ | ⟨_, _, _, rfl, _⟩ <;> exact ⟨_, _, _, rfl⟩
        go_wp2_with fail
        refine heq.mono ?_
        rintro e w2 ⟨rfl, nq, rfl⟩
        have hs2 := drewN_S nq hs1
        generalize w1.drewN nq = w2 at hs2 ⊢
        clear hs1 heq c1' cf'
        have c1' : w2.cell? ⟨b, 1, none⟩ = some (.slice (some ⟨g.fb, 0, none⟩) D.secs.length D.secs.length) := cell_at hs2.p4.heap
        have c3' : w2.cell? ⟨b, 3, none⟩ = some (.map (some g.rm)) := cell_at hs2.p4.heap
        have cf' : w2.cell? ⟨g.fb, i, none⟩ = some fv := by rw [cell_at hs2.p5.heap]; simpa using H1.out.2.2.2.2.1
        have ff' : w2.frozen? ⟨g.fb, i, none⟩ = false := free_at hs2.p5.heap
        have hs3 := hs2.p5.set (i := i) (v := .slice av nv mv)
        have c3'' : (w2.setCell ⟨g.fb, i, none⟩ (.slice av nv mv)).cell? ⟨b, 3, none⟩ = some (.map (some g.rm)) := cell_at hs3.p5.heap
        obtain ⟨esr, clockr, hmr, hs4⟩ := S.map hs3.p7
        obtain ⟨es', clock', hmo', hupd⟩ := run_mapUpdate_int (P := Try.prog) Try.underlying70 Try.underlying3 hs4.heap hmr (i : Int) (.int .i64 1)
        have hs5 := (hs4.setObj (o' := .map es' clock')).to_map hmo'
        clear hs2 hs3 hs4 hmr hmo'
        go_wp2
        go_ret
        refine ⟨rfl, ?_⟩
        obtain ⟨q1, q2, q3, q4, q5, q6, q7⟩ := H1.out
        obtain ⟨ho, p2, p3, p4⟩ := H2.out
        have hgoal : ∀ w : World, S W0 w (F * mapB .i64 g.lm g.kv * blk b (.cells (devCells pw D g) 73 (0, 0)) * stars ((secsL g.fvs g.lvs D.secs).set i emp) * vecB 5 1 fv s.fixed.length (u8s s.fixed) * looseO lv s.loose * bytesV (.slice av nv mv) 5 tl * blk g.fb (.cells (g.fvs.toArray.setIfInBounds i (.slice av nv mv)) 44 (0, 0)) * mapB .i64 g.rm (kvSet (i : Int) (.int .i64 1) g.kvr)) →
            S W0 w (F * devO b pw { secs := D.secs.set i ⟨tl, [], true⟩, reads := D.reads, writes := D.writes }) := by
          intro w h
          rw [q3] at h
          have h2 : S W0 w (F * mapB .i64 g.rm (kvSet (i : Int) (.int .i64 1) g.kvr) * mapB .i64 g.lm g.kv * blk g.fb (.cells (g.fvs.toArray.setIfInBounds i (.slice av nv mv)) 44 (0, 0)) * blk b (.cells (devCells pw D g) 73 (0, 0)) * stars ((secsL g.fvs g.lvs D.secs).set i emp) * (bytesV (.slice av nv mv) 5 tl * looseO lv []) * vecB 5 1 fv s.fixed.length (u8s s.fixed)) := h.perm
          have h3 := h2.left
          have eA : g.fvs.toArray.setIfInBounds i (.slice av nv mv) = (g.fvs.set i (.slice av nv mv)).toArray := by simp
          rw [eA] at h3
          have hlen : (D.secs.set i ⟨tl, [], true⟩).length = D.secs.length := by simp
          refine devO.shut (g := { g with fvs := g.fvs.set i (.slice av nv mv), kvr := kvSet (i : Int) (.int .i64 1) g.kvr }) (devG.unsec (g := g) (D := D) (i := i) (fv := .slice av nv mv) (lv := lv) (s := ⟨tl, [], true⟩) ho.1 ho.2.1 hlt rfl ?_ rfl ?_) ?_
          · obtain ⟨q, e⟩ := List.getElem?_eq_some_iff.1 q6
            simp only
            rw [← e, List.set_getElem_self]
          · have eB : devCells pw D g = devCells pw { secs := D.secs.set i ⟨tl, [], true⟩, reads := D.reads, writes := D.writes } { g with fvs := g.fvs.set i (.slice av nv mv), kvr := kvSet (i : Int) (.int .i64 1) g.kvr } := by simp [devCells]
            rw [eB] at h3
            exact h3
          · obtain ⟨a1, a2, a3, a4, a5, a6, a7, a8⟩ := ho
            refine ⟨by simpa using a1, by simpa using a2, a3, fun k => ?_, a5, a6, by simpa using a7, fun x hx => ?_⟩
            · simp only [lookup_kvSet, a4, List.getElem?_set]
              by_cases h0 : 0 ≤ k
              · by_cases hk : k = (i : Int)
                · subst hk
                  simp [hlt]
                · have : ¬ i = k.toNat := by omega
                  simp [hk, this]
              · have : ¬ k = (i : Int) := by omega
                simp [h0, this]
            · rcases List.mem_or_eq_of_mem_set hx with h | rfl
              · exact a8 x h
              · exact ⟨q2, by simp⟩
        exact hgoal _ hs5
end
end Go.Proofs.Ytnkjkkbjplneeaa
