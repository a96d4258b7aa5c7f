/-
  What Write does.
-/
import Derived.Test.YtnkjkkbjplneeaaDev2
import Derived.Test.YtnkjkkbjplneeaaSLRegion
namespace Go.Proofs.Ytnkjkkbjplneeaa
open Go.RowKit Go.SL
set_option maxRecDepth 100000
set_option linter.unusedSimpArgs false
set_option linter.unusedVariables false

namespace DevA
def writeE (p : PowA) (D : DevA) (at_ : Int) (l : List UInt8) : Int :=
  if p.off = true then 80 else if D.has at_ = false then 3 else if l.length ≠ 64 then 1 else if p.spendB = false then 80 else if (D.writes % 2 == 1) = true then 81 else 0
def writeP (p : PowA) (D : DevA) (at_ : Int) (l : List UInt8) : PowA := if p.off = true then p else if D.has at_ = false then p else if l.length ≠ 64 then p else p.spendS
def addLoose (s : Sec) (l : List UInt8) : Sec := { s with loose := s.loose ++ [l] }
def writeS (p : PowA) (D : DevA) (at_ : Int) (l : List UInt8) : DevA :=
  if p.off = true then D else if D.has at_ = false then D else if l.length ≠ 64 then D else if p.spendB = false then D else if (D.writes % 2 == 1) = true then { D with writes := D.writes / 2 }
  else { D with writes := D.writes / 2, secs := D.secs.modify at_.toNat fun s => addLoose s l }
end DevA
theorem TRows : SliceT Try.prog 68 44 1 24 (.slice none 0 0) := sliceT_of Try.underlying68 (by kernel_rfl) rfl (by decide)
section
variable (W0 w : World) (F : HProp) (b pw : Nat) (D : DevA)
set_option maxHeartbeats 400000 in
theorem PowSpend (p : PowA) (hp : p.ok) (hs : S W0 w (F * powO b p)) :
    Calls Try.prog 33 #[.pointer (some ⟨b, 0, none⟩)] w fun e w' => e = .returned (.bool p.spendB) ∧ S W0 w' (F * powO b p.spendS) := by
  obtain ⟨c0, c1, c2, c3⟩ := powO.cells hs
  have f1 := powO.free hs 1
  have f2 := powO.free hs 2
  have f3 := powO.free hs 3
  obtain ⟨off, fuse, done⟩ := p
  obtain ⟨h1, h2⟩ := hp
  simp only [] at h1 h2
  go_enter Try.func33, Try.ntmps33
  go_wp2
  all_goals
    go_tidy
    go_ret
    refine ⟨by simp [PowA.spendB, *], ?_⟩
  · refine S.to2 (x := PowA.mk true fuse done) hs.set ?_
    simp_all [PowA.spendS]
  · refine S.to2 (x := PowA.mk off (fuse - 1) (wrap64 (done + 1))) hs.set.set ?_
    simp_all [PowA.spendS]
  · refine S.to2 (x := PowA.mk off fuse (wrap64 (done + 1))) hs.set ?_
    have h4 : ¬ fuse = 0 := by simp_all
    have h5 : ¬ 0 < fuse := by omega
    simp [PowA.spendS, h4, h5]
set_option maxHeartbeats 1000000 in
theorem DevWrite (p : PowA) (hp : p.ok) (hsm : D.Small 1000000) (at_ : Int) (v : Value) (l : List UInt8) (hr : ∀ w, S W0 w F → Reads w 1 v l.length (u8s l)) (hl : l.length ≤ 140737488351232) (hs : S W0 w (F * powO pw p * devO b pw D)) :
    Calls Try.prog 11 #[.pointer (some ⟨b, 0, none⟩), .int .i64 at_, v] w fun e w' => e = .returned (.int .i64 (D.writeE p at_ l)) ∧ S W0 w' (F * powO pw (D.writeP p at_ l) * devO b pw (D.writeS p at_ l)) := by
  have hready := DevReady W0 w F b pw D p hs
  have hhas := DevHas W0 w _ b pw D at_ hs
  have hv : ∃ ad m, v = .slice ad l.length m := by
    rcases (hr w hs.left.left).2 with ⟨rfl, _⟩ | ⟨q, o, m, rfl, _⟩ <;> exact ⟨_, _, rfl⟩
  obtain ⟨ad, m, rfl⟩ := hv
  unfold DevA.writeE DevA.writeP DevA.writeS
  by_cases h1 : p.off = true
  · simp only [readyE, h1, if_true] at hready ⊢
    go_enter Try.func11, Try.ntmps11
    go_wp2_with (first | (go_at_call 32; refine (hready).mono ?_; rintro e w' ⟨rfl, rfl⟩))
    go_ret
    exact ⟨rfl, hs⟩
  simp only [readyE, h1, if_false] at hready ⊢
  cases h2 : D.has at_ with
  | false =>
    rw [h2] at hhas
    simp only [if_true]
    go_enter Try.func11, Try.ntmps11
    go_wp2_with (first | (go_at_call 32; refine (hready).mono ?_; rintro e w' ⟨rfl, rfl⟩) | (go_at_call 34; refine (hhas).mono ?_; rintro e w' ⟨rfl, rfl⟩))
    go_ret
    exact ⟨rfl, hs⟩
  | true =>
    rw [h2] at hhas
    simp only [Bool.true_eq_false, if_false]
    by_cases h3 : l.length = 64
    rotate_left
    · have h3' : ((l.length : Int) == 64) = false := by simp; omega
      simp only [ne_eq, h3, not_false_eq_true, if_true]
      go_enter Try.func11, Try.ntmps11
      go_wp2_with (first | (go_at_call 32; refine (hready).mono ?_; rintro e w' ⟨rfl, rfl⟩) | (go_at_call 34; refine (hhas).mono ?_; rintro e w' ⟨rfl, rfl⟩))
      go_ret
      exact ⟨rfl, hs⟩
    simp only [ne_eq, h3, not_true_eq_false, if_false]
    have hcl := fun (w : World) (G : HProp) (hg : S W0 w G) (hF : S W0 w F) => BytesClone W0 w G (.slice ad l.length m) l (hr w hF) (by omega) hg
    rw [h3] at hcl
    have H3 := Lib.hid h3
    clear hr hl h3
    cases h4 : p.spendB with
    | false =>
      simp only [if_true]
      go_enter Try.func11, Try.ntmps11
      obtain ⟨g, ho, hsg⟩ := devO.open hs
      obtain ⟨c0, c1, c2, c3, c4, c5, fr⟩ := devG.cells hsg
      have hspend := PowSpend W0 w (F * devO b pw D) pw p hp hs.perm
      rw [h4] at hspend
      clear ho hsg
      go_wp2_with (first | (go_at_call 32; refine (hready).mono ?_; rintro e w' ⟨rfl, rfl⟩) | (go_at_call 34; refine (hhas).mono ?_; rintro e w' ⟨rfl, rfl⟩) | (go_at_call 33; refine (hspend).mono ?_; rintro e w' ⟨rfl, hs'⟩))
      go_ret
      exact ⟨rfl, hs'.perm⟩
    | true =>
      simp only [Bool.true_eq_false, if_false]
      obtain ⟨g, ho, hsg⟩ := devO.open hs
      obtain ⟨c0, c1, c2, c3, c4, c5, fr⟩ := devG.cells hsg
      have hspend := PowSpend W0 w (F * devO b pw D) pw p hp hs.perm
      rw [h4] at hspend
      have hwr : D.writes < 18446744073709551616 := ho.2.2.2.2.2.1
      clear ho hsg c1 c2 c3 c4 c5 fr g
      cases h5 : (D.writes % 2 == 1) with
      | true =>
        simp only [if_true]
        go_enter Try.func11, Try.ntmps11
        go_wp2_with (first | (go_at_call 32; refine (hready).mono ?_; rintro e w' ⟨rfl, rfl⟩) | (go_at_call 34; refine (hhas).mono ?_; rintro e w' ⟨rfl, rfl⟩) | (go_at_call 33; refine (hspend).mono ?_; rintro e w' ⟨rfl, hs1⟩))
        have hs2 : S W0 w' (F * powO pw p.spendS * devO b pw D) := hs1.perm
        obtain ⟨g, ho, hsg⟩ := devO.open hs2
        obtain ⟨c0, c1, c2, c3, c4, c5, fr⟩ := devG.cells hsg
        have hnext := PatNext w' b 5 D.writes c5 (fr 5) hwr
        clear ho hsg
        rw [h5] at hnext
        go_wp2_with (first | (go_at_call 35; refine (hnext).mono ?_; rintro e w' ⟨rfl, rfl⟩))
        go_ret
        exact ⟨rfl, devO.setWrites hs2 (n := D.writes / 2) (by omega)⟩
      | false =>
        obtain ⟨i, s, rfl, hi, _⟩ := has_get h2
        have hD : DevA.mk (D.secs.modify (i : Int).toNat fun s => DevA.addLoose s l) D.reads (D.writes / 2) = DevA.mk (D.secs.set i (DevA.addLoose s l)) D.reads (D.writes / 2) := by
          congr 1
          simp only [Int.toNat_natCast]
          obtain ⟨hlt, rfl⟩ := List.getElem?_eq_some_iff.1 hi
          apply List.ext_getElem?
          intro j
          rw [List.getElem?_modify, List.getElem?_set]
          by_cases hij : i = j
          · subst hij
            simp [hlt]
          · simp [hij]
        simp only [Bool.false_eq_true, if_false]
        rw [hD]
        clear hD
        go_enter Try.func11, Try.ntmps11
        go_wp2_with (first | (go_at_call 32; refine (hready).mono ?_; rintro e w' ⟨rfl, rfl⟩) | (go_at_call 34; refine (hhas).mono ?_; rintro e w' ⟨rfl, rfl⟩) | (go_at_call 33; refine (hspend).mono ?_; rintro e w' ⟨rfl, hs1⟩))
        have hs2 : S W0 w' (F * powO pw p.spendS * devO b pw D) := hs1.perm
        obtain ⟨g, ho, hsg⟩ := devO.open hs2
        obtain ⟨c0, c1, c2, c3, c4, c5, fr⟩ := devG.cells hsg
        have hnext := PatNext w' b 5 D.writes c5 (fr 5) hwr
        clear ho hsg
        rw [h5] at hnext
        go_wp2_with (first | (go_at_call 35; refine (hnext).mono ?_; rintro e w' ⟨rfl, rfl⟩))
        have hs3 := devO.setWrites hs2 (n := D.writes / 2) (by omega)
        have hw3 : w'.setCell ⟨b, 5, none⟩ (.int .u64 (D.writes / 2 : Nat)) = w'.setCell ⟨b, 5, none⟩ (.int .u64 ((D.writes : Int) / 2)) := rfl
        rw [← hw3]
        clear hw3 h5 hnext c0 c1 c2 c3 c4 c5 fr hhas hready hs2 hs1 h2 hs
        generalize w'.setCell ⟨b, 5, none⟩ (.int .u64 (D.writes / 2 : Nat)) = w3 at *
        obtain ⟨g, ho, hsg⟩ := devO.open hs3
        obtain ⟨c0, c1, c2, c3, c4, c5, fr⟩ := devG.cells hsg
        obtain ⟨fv, lv, e1, e2, k1⟩ := devG.sec hsg ho (i := i) (s := s) hi
        have hkv := ho.2.2.1 (i : Int)
        simp [e2] at hkv
        obtain ⟨es, clock, hmo, k2⟩ := S.map k1.p4
        have hlk := run_lookup_dev k2.heap hmo (i : Int) hkv
        refine wp_region_S [(15, fun w => w.cell? ⟨b, 2, none⟩ = some (.map (some g.lm)) ∧ (Instr.lookup 69 (.map (some g.lm)) (.int .i64 i) false).run Try.prog w = .ok (lv.getD (.slice none 0 0)) w)] rfl ?_ ?_
        · simp only [List.mem_cons, List.not_mem_nil, or_false, forall_eq]
          exact ⟨c2, run_lookup_dev (S.drew k2).heap hmo (i : Int) hkv⟩
        refine WS.takeP (i := 0) (v := ?_) rfl (by kernel_rfl) (by kernel_rfl) (by kernel_rfl) rfl (fun _ _ _ h => h) (by rfl) (fun w1 => ?_) ?_
        rotate_left 1
        · go_simp; try with_reducible rfl
        try simp only [Act.put, List.setIfInBounds_toArray, List.set_cons_zero, List.set_cons_succ]
        refine WS.takeP (i := 1) (v := ?_) rfl (by kernel_rfl) (by kernel_rfl) (by kernel_rfl) rfl (fun _ _ _ h => h) (by rfl) (fun w1 => ?_) ?_
        rotate_left 1
        · go_simp; try with_reducible rfl
        try simp only [Act.put, List.setIfInBounds_toArray, List.set_cons_zero, List.set_cons_succ]
        refine WS.takeP (i := 2) (v := ?_) rfl (by kernel_rfl) (by kernel_rfl) (by kernel_rfl) rfl (fun _ _ _ h => h) (by rfl) (fun w1 => ?_) ?_
        rotate_left 1
        · go_simp; try with_reducible rfl
        try simp only [Act.put, List.setIfInBounds_toArray, List.set_cons_zero, List.set_cons_succ]
        refine WS.takeR (i := 3) (v := ?_) (15) _ (by first | exact .head _ | exact .tail _ (.head _) | exact .tail _ (.tail _ (.head _))) rfl (by kernel_rfl) (by kernel_rfl) (by kernel_rfl) rfl (by kernel_rfl) rfl (fun _ _ _ h => h) (by rfl) (fun w1 hR => ?_) ?_
        rotate_left 1
        · (obtain ⟨q1, q2⟩ := hR); go_simp; try with_reducible rfl
        try simp only [Act.put, List.setIfInBounds_toArray, List.set_cons_zero, List.set_cons_succ]
        refine WS.takeP (i := 4) (v := ?_) rfl (by kernel_rfl) (by kernel_rfl) (by kernel_rfl) rfl (fun _ _ _ h => h) (by rfl) (fun w1 => ?_) ?_
        rotate_left 1
        · go_simp; try with_reducible rfl
        try simp only [Act.put, List.setIfInBounds_toArray, List.set_cons_zero, List.set_cons_succ]
        refine WS.takeP (i := 5) (v := ?_) rfl (by kernel_rfl) (by kernel_rfl) (by kernel_rfl) rfl (fun _ _ _ h => h) (by rfl) (fun w1 => ?_) ?_
        rotate_left 1
        · go_simp; try with_reducible rfl
        try simp only [Act.put, List.setIfInBounds_toArray, List.set_cons_zero, List.set_cons_succ]
        refine WS.takeP (i := 6) (v := ?_) rfl (by kernel_rfl) (by kernel_rfl) (by kernel_rfl) rfl (fun _ _ _ h => h) (by rfl) (fun w1 => ?_) ?_
        rotate_left 1
        · go_simp; try with_reducible rfl
        try simp only [Act.put, List.setIfInBounds_toArray, List.set_cons_zero, List.set_cons_succ]
        refine WS.takeP (i := 7) (v := ?_) rfl (by kernel_rfl) (by kernel_rfl) (by kernel_rfl) rfl (fun _ _ _ h => h) (by rfl) (fun w1 => ?_) ?_
        rotate_left 1
        · go_simp; try with_reducible rfl
        try simp only [Act.put, List.setIfInBounds_toArray, List.set_cons_zero, List.set_cons_succ]
        refine WS.takeR (i := 8) (v := ?_) (15) _ (by first | exact .head _ | exact .tail _ (.head _) | exact .tail _ (.tail _ (.head _))) rfl (by kernel_rfl) (by kernel_rfl) (by kernel_rfl) rfl (by kernel_rfl) rfl (fun _ _ _ h => h) (by rfl) (fun w1 hR => ?_) ?_
        rotate_left 1
        · (obtain ⟨q1, q2⟩ := hR); go_simp; try with_reducible rfl
        try simp only [Act.put, List.setIfInBounds_toArray, List.set_cons_zero, List.set_cons_succ]
        refine WS.takeP (i := 9) (v := ?_) rfl (by kernel_rfl) (by kernel_rfl) (by kernel_rfl) rfl (fun _ _ _ h => h) (by rfl) (fun w1 => ?_) ?_
        rotate_left 1
        · go_simp; try with_reducible rfl
        try simp only [Act.put, List.setIfInBounds_toArray, List.set_cons_zero, List.set_cons_succ]
        refine WS.takeR (i := 10) (v := ?_) (15) _ (by first | exact .head _ | exact .tail _ (.head _) | exact .tail _ (.tail _ (.head _))) rfl (by kernel_rfl) (by kernel_rfl) (by kernel_rfl) rfl (by kernel_rfl) rfl (fun _ _ _ h => h) (by rfl) (fun w1 hR => ?_) ?_
        rotate_left 1
        · (obtain ⟨q1, q2⟩ := hR); go_simp; try with_reducible rfl
        try simp only [Act.put, List.setIfInBounds_toArray, List.set_cons_zero, List.set_cons_succ]
        refine WS.takeP (i := 11) (v := ?_) rfl (by kernel_rfl) (by kernel_rfl) (by kernel_rfl) rfl (fun _ _ _ h => h) (by rfl) (fun w1 => ?_) ?_
        rotate_left 1
        · go_simp; try with_reducible rfl
        try simp only [Act.put, List.setIfInBounds_toArray, List.set_cons_zero, List.set_cons_succ]
        have k3 := S.drew k2
        refine WS.one (i := 12) rfl (by kernel_rfl) (by rfl) (fun K hK => ?_)
        go_simp
        refine (hcl _ _ k3 k3.left.left.left.left.left.left.left).mono ?_
        rintro e w4 ⟨v4, rfl, hs4⟩
        have hs5 := hs4.p1
        refine hK _ _ (fun q hq _ => ?_) ?_
        · simp only [List.mem_cons, List.not_mem_nil, or_false] at hq
          subst hq
          exact ⟨cell_at hs4.p4.heap, run_lookup_dev hs5.heap hmo (i : Int) hkv⟩
        obtain ⟨ad4, n4, m4, rfl⟩ : ∃ ad4 n4 m4, v4 = .slice ad4 n4 m4 := by
          rcases (S.vec hs4) with ⟨rfl, _⟩ | ⟨_, _, _, rfl, _⟩ <;> exact ⟨_, _, _, rfl⟩
        refine WS.one (i := 13) rfl (by kernel_rfl) (by rfl) (fun K hK => ?_)
        go_simp
        have hs6 := hs5.alloc (.cells #[.slice ad4 n4 m4] 44)
        refine hK _ _ (fun q hq _ => ?_) ?_
        · simp only [List.mem_cons, List.not_mem_nil, or_false] at hq
          subst hq
          exact ⟨cell_at hs6.p5.heap, run_lookup_dev hs6.p1.heap hmo (i : Int) hkv⟩
        refine WS.one (i := 14) rfl (by kernel_rfl) (by rfl) (fun K hK => ?_)
        have hsl : s.loose.length ≤ 1000000 := hsm s (List.mem_of_getElem? hi)
        unfold secO at hs6
        have hs7 := hs6.p3.assoc
        obtain ⟨vs, hvl, hlv, hs8⟩ := looseO.open hs7
        have hs9 := hs8.p1
        have hrd : Reads (w4.alloc (.cells #[.slice ad4 n4 m4] 44)) 1 (.slice (some ⟨w4.heap.size, 0, none⟩) 1 1) 1 [.slice ad4 n4 m4] := by
          refine ⟨rfl, .inr ⟨_, _, _, rfl, Nat.le_refl _, by simp [maxLen], fun j u hj => ?_⟩⟩
          rw [cell_at hs6.heap]
          simpa using hj
        refine wp_append_K _ _ TRows rfl hs9 hrd rfl rfl (by simp [Value.oneCell']) (by simp only [maxLen]; omega) (by omega) ?_
        intro v6 w6 hs10 _
        simp only [Act.put, List.setIfInBounds_toArray, List.set_cons_zero, List.set_cons_succ]
        refine hK _ _ (fun q hq _ => ?_) ?_
        · simp only [List.mem_cons, List.not_mem_nil, or_false] at hq
          subst hq
          exact ⟨cell_at hs10.p7.heap, run_lookup_dev hs10.p4.heap hmo (i : Int) hkv⟩
        obtain ⟨es', clock', hmo', hupd⟩ := run_mapUpdate_int (P := Try.prog) (w := w6) Try.underlying69 Try.underlying3 hs10.p4.heap hmo (i : Int) v6
        refine WS.one (i := 15) rfl (by kernel_rfl) (by rfl) (fun K hK => ?_)
        go_simp
        have hs11 := (hs10.p4.setObj (o' := .map es' clock')).to_map hmo'
        refine hK _ _ (fun q hq hq2 => ?_) ?_
        · simp only [List.mem_cons, List.not_mem_nil, or_false] at hq
          subst hq
          revert hq2
          simp
        refine WS.done (by kernel_rfl) ?_
        generalize { heap := w6.heap.setIfInBounds g.lm (Obj.map es' clock'), tape := w6.tape, drawn := w6.drawn, os := w6.os, output := w6.output : World } = w7 at hs11 ⊢
        have hlen : (D.secs.set i (DevA.addLoose s l)).length = D.secs.length := by simp
        have hlt : i < D.secs.length := (List.getElem?_eq_some_iff.1 hi).1
        have hfin : S W0 w7 (F * powO pw p.spendS * devO b pw { secs := D.secs.set i (DevA.addLoose s l), reads := D.reads, writes := D.writes / 2 }) := by
          have t2 : S W0 w7 (F * powO pw p.spendS * mapB .i64 g.rm g.kvr * mapB .i64 g.lm (kvSet (i : Int) v6 g.kv) * blk g.fb (.cells g.fvs.toArray 44 (0, 0)) * blk b (.cells (devCells pw { secs := D.secs, reads := D.reads, writes := D.writes / 2 } g) 73 (0, 0)) * stars ((secsL g.fvs g.lvs D.secs).set i emp) * bytesV fv 5 s.fixed *
              vecB 44 1 v6 (s.loose.length + 1) (vs ++ [.slice ad4 n4 m4]) * (stars (List.zipWith (fun x l => bytesV x 5 l) vs s.loose) * bytesV (.slice ad4 n4 m4) 5 l) * blk w4.heap.size (.cells #[.slice ad4 n4 m4] 44 (0, 0))) := hs11.perm
          have t3 := t2.left
          rw [← stars_rows_snoc hvl, show s.loose.length + 1 = (s.loose ++ [l]).length by simp] at t3
          have t4 := S.unassoc (looseO.shut t3 (by simp [hvl]) (by simp))
          refine devO.shut (g := { g with lvs := g.lvs.set i (some v6), kv := kvSet (i : Int) v6 g.kv }) (devG.unsec (g := g) (D := { secs := D.secs, reads := D.reads, writes := D.writes / 2 }) (i := i) (fv := fv) (lv := some v6) (s := DevA.addLoose s l) ho.1 ho.2.1 hlt ?_ rfl rfl ?_) ?_
          · simp only
            obtain ⟨hfl, rfl⟩ := List.getElem?_eq_some_iff.1 e1
            exact (List.set_getElem_self hfl).symm
          · have eB : devCells pw { secs := D.secs, reads := D.reads, writes := D.writes / 2 } g = devCells pw { secs := D.secs.set i (DevA.addLoose s l), reads := D.reads, writes := D.writes / 2 } { g with lvs := g.lvs.set i (some v6), kv := kvSet (i : Int) v6 g.kv } := by simp [devCells]
            rw [eB] at t4
            exact t4
          · obtain ⟨a1, a2⟩ := ho.2.2.2.2.2.2.2 s (List.mem_of_getElem? hi)
            refine DevG.Ok.put (D := { secs := D.secs, reads := D.reads, writes := D.writes / 2 }) ho hi ⟨a1, fun x hx => ?_⟩ rfl (fun k => lookup_kvSet _ _ _ _) ho.2.2.2.2.1 ho.2.2.2.2.2.1
            rcases List.mem_append.1 hx with hx | hx
            · exact a2 x hx
            · rw [List.mem_singleton] at hx
              subst hx
              exact H3.out
        clear hs11 hs10 hs9 hs8 hs7 hs6 hs5 hs4 hs3 hupd hmo' hmo k1 k2 k3 hkv hlk ho hsg hlv hvl hi
        go_wp2
        go_ret
        exact ⟨rfl, hfin⟩
end
end Go.Proofs.Ytnkjkkbjplneeaa
