/-
  What the document's Write does.
-/
import Derived.Test.YtnkjkkbjplneeaaRef2
import Derived.Test.YtnkjkkbjplneeaaSLRegion2
namespace Go.Proofs.Ytnkjkkbjplneeaa
open Go.RowKit Go.SL
set_option maxRecDepth 100000
set_option linter.unusedSimpArgs false
set_option linter.unusedVariables false
theorem TStrs : SliceT Try.prog 60 9 1 16 (.string ⟨#[]⟩) := sliceT_of Try.underlying60 (by kernel_rfl) rfl (by decide)
theorem left_mid_S {W0 w : World} {A B C G : HProp} (h : S W0 w (A * B * C * G)) : S W0 w (A * G * C) := by
  have h' : S W0 w (A * G * C * B) := h.perm
  exact h'.left
theorem RefWrite_put {W0 w : World} {F : HProp} {e q : Nat} {D D2 : DevA} {g : RG} {i : Nat} {s : Sec} {l : List UInt8} {bs : ByteArray} {lv v2 : Value} {ps : PowA} (hi : D.secs[i]? = some s) (hD2 : ({ D with writes := D.writes / 2 } : DevA) = D2) (h64 : l.length = 64) (hbs : strV l = .string bs)
    (hl : g.lvs.length = D2.secs.length) (ho : D2.Ok) (hlv : g.lvs[i]? = some lv) (h : S W0 w (F * rpowO q ps * vecB 9 1 v2 (0 + s.loose.length + 1) ([] ++ strsV s.loose ++ [.string bs]) * rdevG e q D2 g)) :
    S W0 (w.setCell ⟨g.sb, i * 3 + 1, none⟩ v2) (F * rpowO q ps * rdevO e q { D with writes := D.writes / 2, secs := D.secs.modify (i : Int).toNat fun s => DevA.addLoose s l }) := by
  subst hD2
  simp only at hl
  have hlt := (List.getElem?_eq_some_iff.1 hi).1
  have hmod : (D.secs.modify (i : Int).toNat fun s => DevA.addLoose s l) = D.secs.set i (DevA.addLoose s l) := by
    simp only [Int.toNat_natCast]
    obtain ⟨_, rfl⟩ := List.getElem?_eq_some_iff.1 hi
    apply List.ext_getElem?
    intro j
    rw [List.getElem?_modify, List.getElem?_set]
    by_cases hij : i = j
    · subst hij; simp [hlt]
    · simp [hij]
  rw [hmod]
  have k := (rdevG.top h).p1.set (i := i * 3 + 1) (v := v2)
  have hgv := onesL_get hlv hi
  have f := flat_set 3 (onesL g.lvs D.secs) (onesL_len _ _) i 1 _ v2 hgv (by decide)
  have hset := onesL_set g.lvs D.secs i v2 (DevA.addLoose s l) hl hlt
  have hrow : (onesL g.lvs D.secs).flatten.toArray.setIfInBounds (i * 3 + 1) v2 = (onesL (g.lvs.set i v2) (D.secs.set i (DevA.addLoose s l))).flatten.toArray := by
    rw [List.setIfInBounds_toArray, f, hset]; rfl
  refine rdevO.shut (g := { g with lvs := g.lvs.set i v2 }) (rdevG.of_top ?_) (by simpa using hl) ?_
  · have e1 := strsO_set g.lvs D.secs hl hlt v2 (DevA.addLoose s l)
    have e2 := strsO_get (D := { D with writes := D.writes / 2 }) hl hi hlv
    have e3 : strsO v2 (DevA.addLoose s l) = vecB 9 1 v2 (0 + s.loose.length + 1) ([] ++ strsV s.loose ++ [.string bs]) := by
      unfold strsO DevA.addLoose
      simp [strsV, hbs]
    have e4 : rcells q { D with writes := D.writes / 2, secs := D.secs.set i (DevA.addLoose s l) } { g with lvs := g.lvs.set i v2 } = rcells q { D with writes := D.writes / 2 } g := by simp [rcells]
    rw [e4]
    dsimp only at k e1 e2 ⊢
    rw [e1, e3, ← hrow]
    rw [e2] at k
    have k2 : S W0 (w.setCell ⟨g.sb, i * 3 + 1, none⟩ v2) (F * rpowO q ps * (stars ((List.zipWith strsO g.lvs D.secs).set i emp) * vecB 9 1 v2 (0 + s.loose.length + 1) ([] ++ strsV s.loose ++ [.string bs])) * blk g.sb (.cells ((onesL g.lvs D.secs).flatten.toArray.setIfInBounds (i * 3 + 1) v2) 62 (0, 0)) *
        blk e (.cells (rcells q { D with writes := D.writes / 2 } g) 57 (0, 0)) * strsO lv s) := k.perm
    exact k2.left
  · obtain ⟨o1, o2, o3, o4⟩ := ho
    refine ⟨o1, o2, by simpa using o3, fun x hx => ?_⟩
    rcases List.mem_or_eq_of_mem_set hx with h | rfl
    · exact o4 x h
    · have hs := o4 s (List.mem_of_getElem? hi)
      refine ⟨hs.1, fun y hy => ?_⟩
      simp only [DevA.addLoose, List.mem_append, List.mem_singleton] at hy
      rcases hy with hy | rfl
      · exact hs.2 y hy
      · exact h64
section
variable (W0 w : World) (F : HProp) (e q : Nat) (D : DevA)
set_option maxHeartbeats 2000000 in
theorem RefWrite (p : PowA) (hp : p.ok) (hsm : D.Small 1000000) (at_ : Int) (l : List UInt8) (hs : S W0 w (F * rpowO q p * rdevO e q D)) :
    Calls Try.prog 39 #[.pointer (some ⟨e, 0, none⟩), .int .i64 at_, strV l] w fun e' w' => e' = .returned (.int .i64 (D.writeE p at_ l)) ∧ S W0 w' (F * rpowO q (D.writeP p at_ l) * rdevO e q (D.writeS p at_ l)) := by
  obtain ⟨c0, c2, c3, fr, ho⟩ := rdevO.cells hs
  obtain ⟨left, hl, h⟩ := rpowO.open hs.p1
  have d0 : w.cell? ⟨q, 0, none⟩ = some (.bool p.off) := cell_at h.heap
  have hhas := RefHas W0 w _ e q D at_ hs
  have hwr : D.writes < 18446744073709551616 := ho.2.1
  obtain ⟨bs, hbs, hsz⟩ : ∃ bs : ByteArray, strV l = .string bs ∧ bs.size = l.length := ⟨⟨l.toArray⟩, rfl, by simp [ByteArray.size]⟩
  rw [hbs]
  unfold DevA.writeE DevA.writeP DevA.writeS
  clear h hl ho c2 c3 fr
  by_cases h1 : p.off = true
  · rw [h1] at d0
    rw [if_pos h1, if_pos h1, if_pos h1]
    go_enter Try.func39, Try.ntmps39
    go_wp2
    go_ret
    exact ⟨rfl, hs⟩
  rw [if_neg h1, if_neg h1, if_neg h1]
  have h1' : p.off = false := by simpa using h1
  rw [h1'] at d0
  clear h1' h1
  cases h2 : D.has at_ with
  | false =>
    rw [h2] at hhas
    simp only [if_true]
    go_enter Try.func39, Try.ntmps39
    go_wp2_with (first | (go_at_call 52; refine (hhas).mono ?_; rintro e w' ⟨rfl, rfl⟩))
    go_ret
    exact ⟨rfl, hs⟩
  | true =>
    rw [h2] at hhas
    simp only [Bool.true_eq_false, if_false]
    by_cases h3 : l.length = 64
    rotate_left
    · have h3' : ((bs.size : Int) == 64) = false := by simp; omega
      simp only [ne_eq, h3, not_false_eq_true, if_true]
      go_enter Try.func39, Try.ntmps39
      go_wp2_with (first | (go_at_call 52; refine (hhas).mono ?_; rintro e w' ⟨rfl, rfl⟩))
      go_ret
      exact ⟨rfl, hs⟩
    simp only [ne_eq, h3, not_true_eq_false, if_false]
    have hsz' : (bs.size : Int) = 64 := by omega
    have H3 := Lib.hid (⟨h3, hbs⟩ : _ ∧ _)
    clear hsz h3 hbs
    have hspend := RPowSpend W0 w (F * rdevO e q D) q p hp hs.perm
    cases h4 : p.spendB with
    | false =>
      rw [h4] at hspend
      simp only [if_true]
      go_enter Try.func39, Try.ntmps39
      go_wp2_with (first | (go_at_call 52; refine (hhas).mono ?_; rintro e w' ⟨rfl, rfl⟩) | (go_at_call 53; refine (hspend).mono ?_; rintro e w' ⟨rfl, hs1⟩))
      go_ret
      exact ⟨rfl, hs1.perm⟩
    | true =>
      rw [h4] at hspend
      simp only [Bool.true_eq_false, if_false]
      generalize p.spendS = ps at *
      clear hs
      cases h5 : (D.writes % 2 == 1) with
      | true =>
        have h6 : (((D.writes : Int) % 2) == 1) = true := by simp at h5 ⊢; omega
        simp only [if_true]
        go_enter Try.func39, Try.ntmps39
        go_wp2_with (first | (go_at_call 52; refine (hhas).mono ?_; rintro e w' ⟨rfl, rfl⟩))
        refine hspend.mono ?_
        rintro e' w2 ⟨rfl, hs1⟩
        have hs2 : S W0 w2 (F * rpowO q ps * rdevO e q D) := hs1.perm
        obtain ⟨c0, c2, c3, fr, ho⟩ := rdevO.cells hs2
        have f3 := fr 3
        have hs3 := rdevO.setWrites hs2 (n := D.writes / 2) (by omega)
        clear hspend hhas hs1 hs2 ho fr c2 d0
        go_wp2
        go_ret
        exact ⟨rfl, hs3⟩
      | false =>
        have h6 : (((D.writes : Int) % 2) == 1) = false := by simp at h5 ⊢; omega
        simp only [Bool.false_eq_true, if_false]
        obtain ⟨i, s, rfl, hi, _⟩ := has_get h2
        go_enter Try.func39, Try.ntmps39
        go_wp2_with (first | (go_at_call 52; refine (hhas).mono ?_; rintro e w' ⟨rfl, rfl⟩))
        refine hspend.mono ?_
        rintro e' w2 ⟨rfl, hs1⟩
        have hs2 : S W0 w2 (F * rpowO q ps * rdevO e q D) := hs1.perm
        obtain ⟨c0, c2, c3, fr, ho⟩ := rdevO.cells hs2
        have f3 := fr 3
        have hs3 := rdevO.setWrites hs2 (n := D.writes / 2) (by omega)
        clear hspend hhas hs1 hs2 ho fr c2 d0
        go_wp2
        -- REGION
        generalize hD2 : ({ D with writes := D.writes / 2 } : DevA) = D2 at hs3
        have hw3 : w2.setCell ⟨e, 3, none⟩ (.int .u64 (D.writes / 2 : Nat)) = w2.setCell ⟨e, 3, none⟩ (.int .u64 ((D.writes : Int) / 2)) := rfl
        rw [← hw3]
        clear hw3 c3 f3 c0
        generalize w2.setCell ⟨e, 3, none⟩ (.int .u64 (D.writes / 2 : Nat)) = w3 at hs3 ⊢
        have hi2 : D2.secs[i]? = some s := by rw [← hD2]; exact hi
        have hlt : i < D2.secs.length := (List.getElem?_eq_some_iff.1 hi2).1
        obtain ⟨g, hl, ho, hsg⟩ := rdevO.open hs3
        obtain ⟨lv, hlv, _⟩ := rdevG.at hsg hl hi2
        have hsl : s.loose.length ≤ 1000000 := hsm s (List.mem_of_getElem? hi)
        have hone : ∀ u ∈ strsV s.loose, u.oneCell' = true := by
          intro u hu
          obtain ⟨x, _, rfl⟩ := List.mem_map.1 hu
          rfl
        have hcl : ∀ (w : World) (A : HProp), S W0 w (A * rdevG e q D2 g) → w.cell? ⟨e, 1, none⟩ = some (.slice (some ⟨g.sb, 0, none⟩) D2.secs.length D2.secs.length) ∧ w.cell? ⟨g.sb, i * 3 + 1, none⟩ = some lv := fun w A h => by
          obtain ⟨_, h1, _⟩ := rdevG.cells h
          obtain ⟨lv', e1, _, h2, _⟩ := rdevG.at h hl hi2
          rw [hlv] at e1
          cases e1
          exact ⟨h1, h2⟩
        have hfr : ∀ (w : World) (A : HProp), S W0 w (A * rdevG e q D2 g) → w.frozen? ⟨g.sb, i * 3 + 1, none⟩ = false := fun w A h => by
          obtain ⟨lv', _, _, _, _, h2⟩ := rdevG.at h hl hi2
          exact h2 _
        have hrl : ∀ (w : World) (A : HProp), S W0 w (A * rdevG e q D2 g) → Reads w 1 lv s.loose.length (strsV s.loose) := fun w A h => by
          have k := (rdevG.top h).p2
          rw [strsO_get hl hi2 hlv] at k
          have k2 := k.assoc
          unfold strsO at k2
          exact k2.reads
        have hput : ∀ (w : World) (v2 : Value), S W0 w (F * rpowO q ps * vecB 9 1 v2 (0 + s.loose.length + 1) ([] ++ strsV s.loose ++ [.string bs]) * rdevG e q D2 g) →
            S W0 (w.setCell ⟨g.sb, i * 3 + 1, none⟩ v2) (F * rpowO q ps * rdevO e q { D with writes := D.writes / 2, secs := D.secs.modify (i : Int).toNat fun s => DevA.addLoose s l }) := fun w v2 h => by
          exact RefWrite_put hi hD2 H3.out.1 H3.out.2 hl ho hlv h
        obtain ⟨adl, nl, ml, rfl⟩ : ∃ ad n m, lv = .slice ad n m := by
          rcases (hrl _ _ hsg).2 with ⟨rfl, _⟩ | ⟨_, _, _, rfl, _⟩ <;> exact ⟨_, _, _, rfl⟩
        have i0 : (0 : Int) ≤ i := by omega
        have i1 : (i : Int) < D2.secs.length := by omega
        obtain ⟨m1, m2⟩ := hcl _ _ hsg
        clear hi hi2 hD2 hlv hl ho hs3 h2 hsm hwr h5 h6
        generalize D2.secs.length = nsec at *
        refine wp_region_S [(20, fun w => w.cell? ⟨e, 1, none⟩ = some (.slice (some ⟨g.sb, 0, none⟩) nsec nsec) ∧ w.cell? ⟨g.sb, i * 3 + 1, none⟩ = some (.slice adl nl ml))] rfl ?_ ?_
        · simp only [List.mem_cons, List.not_mem_nil, or_false, forall_eq]
          exact ⟨m1, m2⟩
        refine WS.takeP (i := 0) (v := ?_) rfl (by kernel_rfl) (by kernel_rfl) (by kernel_rfl) rfl (fun _ _ _ h => h) (by rfl) (fun w1 => ?_) ?_
        rotate_left 1
        · go_simp; try with_reducible rfl
        try simp only [Act.put, List.setIfInBounds_toArray, List.set_cons_zero, List.set_cons_succ]
        refine WS.takeP (i := 1) (v := ?_) rfl (by kernel_rfl) (by kernel_rfl) (by kernel_rfl) rfl (fun _ _ _ h => h) (by rfl) (fun w1 => ?_) ?_
        rotate_left 1
        · go_simp; try with_reducible rfl
        try simp only [Act.put, List.setIfInBounds_toArray, List.set_cons_zero, List.set_cons_succ]
        refine WS.takeP (i := 2) (v := ?_) rfl (by kernel_rfl) (by kernel_rfl) (by kernel_rfl) rfl (fun _ _ _ h => h) (by rfl) (fun w1 => ?_) ?_
        rotate_left 1
        · go_simp; try with_reducible rfl
        try simp only [Act.put, List.setIfInBounds_toArray, List.set_cons_zero, List.set_cons_succ]
        refine WS.takeR (i := 3) (v := ?_) (20) _ (by first | exact .head _ | exact .tail _ (.head _) | exact .tail _ (.tail _ (.head _))) rfl (by kernel_rfl) (by kernel_rfl) (by kernel_rfl) rfl (by kernel_rfl) rfl (fun _ _ _ h => h) (by rfl) (fun w1 hR => ?_) ?_
        rotate_left 1
        · (obtain ⟨r1, r2⟩ := hR); go_simp; try with_reducible rfl
        try simp only [Act.put, List.setIfInBounds_toArray, List.set_cons_zero, List.set_cons_succ]
        refine WS.takeP (i := 4) (v := ?_) rfl (by kernel_rfl) (by kernel_rfl) (by kernel_rfl) rfl (fun _ _ _ h => h) (by rfl) (fun w1 => ?_) ?_
        rotate_left 1
        · go_simp; try with_reducible rfl
        try simp only [Act.put, List.setIfInBounds_toArray, List.set_cons_zero, List.set_cons_succ]
        refine WS.takeP (i := 6) (v := ?_) rfl (by kernel_rfl) (by kernel_rfl) (by kernel_rfl) rfl (fun _ _ _ h => h) (by rfl) (fun w1 => ?_) ?_
        rotate_left 1
        · go_simp; try with_reducible rfl
        try simp only [Act.put, List.setIfInBounds_toArray, List.set_cons_zero, List.set_cons_succ]
        refine WS.takeP (i := 7) (v := ?_) rfl (by kernel_rfl) (by kernel_rfl) (by kernel_rfl) rfl (fun _ _ _ h => h) (by rfl) (fun w1 => ?_) ?_
        rotate_left 1
        · go_simp; try with_reducible rfl
        try simp only [Act.put, List.setIfInBounds_toArray, List.set_cons_zero, List.set_cons_succ]
        refine WS.takeP (i := 8) (v := ?_) rfl (by kernel_rfl) (by kernel_rfl) (by kernel_rfl) rfl (fun _ _ _ h => h) (by rfl) (fun w1 => ?_) ?_
        rotate_left 1
        · go_simp; try with_reducible rfl
        try simp only [Act.put, List.setIfInBounds_toArray, List.set_cons_zero, List.set_cons_succ]
        refine WS.takeR (i := 9) (v := ?_) (20) _ (by first | exact .head _ | exact .tail _ (.head _) | exact .tail _ (.tail _ (.head _))) rfl (by kernel_rfl) (by kernel_rfl) (by kernel_rfl) rfl (by kernel_rfl) rfl (fun _ _ _ h => h) (by rfl) (fun w1 hR => ?_) ?_
        rotate_left 1
        · (obtain ⟨r1, r2⟩ := hR); go_simp; try with_reducible rfl
        try simp only [Act.put, List.setIfInBounds_toArray, List.set_cons_zero, List.set_cons_succ]
        refine WS.takeP (i := 10) (v := ?_) rfl (by kernel_rfl) (by kernel_rfl) (by kernel_rfl) rfl (fun _ _ _ h => h) (by rfl) (fun w1 => ?_) ?_
        rotate_left 1
        · go_simp; try with_reducible rfl
        try simp only [Act.put, List.setIfInBounds_toArray, List.set_cons_zero, List.set_cons_succ]
        refine WS.takeP (i := 11) (v := ?_) rfl (by kernel_rfl) (by kernel_rfl) (by kernel_rfl) rfl (fun _ _ _ h => h) (by rfl) (fun w1 => ?_) ?_
        rotate_left 1
        · go_simp; try with_reducible rfl
        try simp only [Act.put, List.setIfInBounds_toArray, List.set_cons_zero, List.set_cons_succ]
        refine WS.takeP (i := 12) (v := ?_) rfl (by kernel_rfl) (by kernel_rfl) (by kernel_rfl) rfl (fun _ _ _ h => h) (by rfl) (fun w1 => ?_) ?_
        rotate_left 1
        · go_simp; try with_reducible rfl
        try simp only [Act.put, List.setIfInBounds_toArray, List.set_cons_zero, List.set_cons_succ]
        refine WS.takeR (i := 13) (v := ?_) (20) _ (by first | exact .head _ | exact .tail _ (.head _) | exact .tail _ (.tail _ (.head _))) rfl (by kernel_rfl) (by kernel_rfl) (by kernel_rfl) rfl (by kernel_rfl) rfl (fun _ _ _ h => h) (by rfl) (fun w1 hR => ?_) ?_
        rotate_left 1
        · (obtain ⟨r1, r2⟩ := hR); go_simp; try with_reducible rfl
        try simp only [Act.put, List.setIfInBounds_toArray, List.set_cons_zero, List.set_cons_succ]
        refine WS.takeP (i := 15) (v := ?_) rfl (by kernel_rfl) (by kernel_rfl) (by kernel_rfl) rfl (fun _ _ _ h => h) (by rfl) (fun w1 => ?_) ?_
        rotate_left 1
        · go_simp; try with_reducible rfl
        try simp only [Act.put, List.setIfInBounds_toArray, List.set_cons_zero, List.set_cons_succ]
        have hsd := hsg.drew
        clear hsg m1 m2
        generalize w3.drew = w4 at hsd ⊢
        refine WS.two (i := 5) (j := 16) rfl rfl (by kernel_rfl) (by rfl) (by rfl) (fun K hK => ?_) (fun K hK => ?_)
        · skip
          go_simp
          have ha0 := (hsd.alloc (.cells #[] 9))
          have ha1 := S.to_vec (T := 9) (k := 1) (n := 0) (m := 0) (cs := []) (spare := []) ha0 rfl rfl (Nat.le_refl _) (by simp [maxLen])
          generalize hva : Value.slice (some ⟨w4.heap.size, 0, none⟩) 0 0 = va at ha1 ⊢
          generalize w4.alloc (.cells #[] 9) = wa at ha1 ⊢
          have ha : S W0 wa (F * rpowO q ps * vecB 9 1 va 0 [] * rdevG e q D2 g) := ha1.perm
          clear ha0 ha1 hva
          refine hK _ _ (fun q hq _ => ?_) ?_
          · simp only [List.mem_cons, List.not_mem_nil, or_false] at hq
            subst hq
            exact hcl _ _ ha
          refine WS.two (i := 14) (j := 16) rfl rfl (by kernel_rfl) (by rfl) (by rfl) (fun K hK => ?_) (fun K hK => ?_)
          · skip
            have hb0 : S W0 wa (F * rpowO q ps * rdevG e q D2 g * vecB 9 1 va 0 []) := ha.perm
            refine wp_append_K _ _ TStrs rfl hb0 (hrl _ _ ha) rfl rfl hone (by simp only [maxLen]; omega) (by omega) ?_
            intro v1 wb hb1 _
            simp only [Act.put, List.setIfInBounds_toArray, List.set_cons_zero, List.set_cons_succ]
            have hb : S W0 wb (F * rpowO q ps * vecB 9 1 v1 (0 + s.loose.length) ([] ++ strsV s.loose) * rdevG e q D2 g) := hb1.perm
            clear hb0 hb1
            refine hK _ _ (fun q hq _ => ?_) ?_
            · simp only [List.mem_cons, List.not_mem_nil, or_false] at hq
              subst hq
              exact hcl _ _ hb
            refine WS.one (i := 16) rfl (by kernel_rfl) (by rfl) (fun K hK => ?_)
            go_simp
            have hc1 := (hb.alloc (.cells #[.string bs] 9))
            generalize wb.heap.size = gb at hc1 ⊢
            generalize wb.alloc (.cells #[.string bs] 9) = wc at hc1 ⊢
            have hc : S W0 wc (F * rpowO q ps * vecB 9 1 v1 (0 + s.loose.length) ([] ++ strsV s.loose) * blk gb (.cells #[.string bs] 9 (0, 0)) * rdevG e q D2 g) := hc1.perm
            clear hc1
            refine hK _ _ (fun q hq _ => ?_) ?_
            · simp only [List.mem_cons, List.not_mem_nil, or_false] at hq
              subst hq
              exact hcl _ _ hc
            have hd0 : S W0 wc (F * rpowO q ps * blk gb (.cells #[.string bs] 9 (0, 0)) * rdevG e q D2 g * vecB 9 1 v1 (0 + s.loose.length) ([] ++ strsV s.loose)) := hc.perm
            have hdr : Reads wc 1 (.slice (some ⟨gb, 0, none⟩) 1 1) 1 [.string bs] := by
              refine ⟨rfl, .inr ⟨_, _, _, rfl, Nat.le_refl _, by simp [maxLen], fun j u hj => ?_⟩⟩
              have hb : S W0 wc (F * rpowO q ps * rdevG e q D2 g * vecB 9 1 v1 (0 + s.loose.length) ([] ++ strsV s.loose) * blk gb (.cells #[.string bs] 9 (0, 0))) := hc.perm
              rw [cell_at hb.heap]
              simpa using hj
            refine WS.one (i := 17) rfl (by kernel_rfl) (by rfl) (fun K hK => ?_)
            refine wp_append_K _ _ TStrs rfl hd0 hdr rfl rfl (by simp [Value.oneCell']) (by simp only [maxLen]; omega) (by omega) ?_
            intro v2 wd hd1 _
            simp only [Act.put, List.setIfInBounds_toArray, List.set_cons_zero, List.set_cons_succ]
            have hd : S W0 wd (F * rpowO q ps * vecB 9 1 v2 (0 + s.loose.length + 1) ([] ++ strsV s.loose ++ [.string bs]) * rdevG e q D2 g) := left_mid_S hd1
            clear hd0 hd1 hdr
            refine hK _ _ (fun q hq _ => ?_) ?_
            · simp only [List.mem_cons, List.not_mem_nil, or_false] at hq
              subst hq
              exact hcl _ _ hd
            refine WS.takeP (i := 18) (v := ?_) rfl (by kernel_rfl) (by kernel_rfl) (by kernel_rfl) rfl (fun _ _ _ h => h) (by rfl) (fun w1 => ?_) ?_
            rotate_left 1
            · go_simp; try with_reducible rfl
            try simp only [Act.put, List.setIfInBounds_toArray, List.set_cons_zero, List.set_cons_succ]
            refine WS.takeP (i := 19) (v := ?_) rfl (by kernel_rfl) (by kernel_rfl) (by kernel_rfl) rfl (fun _ _ _ h => h) (by rfl) (fun w1 => ?_) ?_
            rotate_left 1
            · go_simp; try with_reducible rfl
            try simp only [Act.put, List.setIfInBounds_toArray, List.set_cons_zero, List.set_cons_succ]
            obtain ⟨av, nv, mv, rfl⟩ : ∃ av nv mv, v2 = .slice av nv mv := by
              have hb : S W0 wd (F * rpowO q ps * rdevG e q D2 g * vecB 9 1 v2 (0 + s.loose.length + 1) ([] ++ strsV s.loose ++ [.string bs])) := hd.perm
              rcases S.vec hb with ⟨rfl, _⟩ | ⟨_, _, _, rfl, _⟩ <;> exact ⟨_, _, _, rfl⟩
            have k1 := (hcl _ _ hd).2
            have k2 := hfr _ _ hd
            have hfin := hput _ _ hd
            refine WS.one (i := 20) rfl (by kernel_rfl) (by rfl) (fun K hK => ?_)
            go_simp
            refine hK _ _ (fun q hq hq2 => ?_) ?_
            · simp only [List.mem_cons, List.not_mem_nil, or_false] at hq
              subst hq
              revert hq2
              simp
            refine WS.done (by kernel_rfl) ?_
            clear k1 k2 hd
            generalize wd.setCell ⟨g.sb, i * 3 + 1, none⟩ (.slice av nv mv) = wz at hfin ⊢
            go_wp2
            go_ret
            exact ⟨rfl, hfin⟩
          · skip
            go_simp
            have hb1 := (ha.alloc (.cells #[.string bs] 9))
            generalize wa.heap.size = gb at hb1 ⊢
            generalize wa.alloc (.cells #[.string bs] 9) = wb at hb1 ⊢
            have hb : S W0 wb (F * rpowO q ps * vecB 9 1 va 0 [] * blk gb (.cells #[.string bs] 9 (0, 0)) * rdevG e q D2 g) := hb1.perm
            clear hb1
            refine hK _ _ (fun q hq _ => ?_) ?_
            · simp only [List.mem_cons, List.not_mem_nil, or_false] at hq
              subst hq
              exact hcl _ _ hb
            refine WS.one (i := 14) rfl (by kernel_rfl) (by rfl) (fun K hK => ?_)
            have hc0 : S W0 wb (F * rpowO q ps * blk gb (.cells #[.string bs] 9 (0, 0)) * rdevG e q D2 g * vecB 9 1 va 0 []) := hb.perm
            refine wp_append_K _ _ TStrs rfl hc0 (hrl _ _ hb) rfl rfl hone (by simp only [maxLen]; omega) (by omega) ?_
            intro v1 wc hc1 _
            simp only [Act.put, List.setIfInBounds_toArray, List.set_cons_zero, List.set_cons_succ]
            have hc : S W0 wc (F * rpowO q ps * blk gb (.cells #[.string bs] 9 (0, 0)) * vecB 9 1 v1 (0 + s.loose.length) ([] ++ strsV s.loose) * rdevG e q D2 g) := hc1.perm
            clear hc0 hc1
            refine hK _ _ (fun q hq _ => ?_) ?_
            · simp only [List.mem_cons, List.not_mem_nil, or_false] at hq
              subst hq
              exact hcl _ _ hc
            have hd0 : S W0 wc (F * rpowO q ps * blk gb (.cells #[.string bs] 9 (0, 0)) * rdevG e q D2 g * vecB 9 1 v1 (0 + s.loose.length) ([] ++ strsV s.loose)) := hc.perm
            have hdr : Reads wc 1 (.slice (some ⟨gb, 0, none⟩) 1 1) 1 [.string bs] := by
              refine ⟨rfl, .inr ⟨_, _, _, rfl, Nat.le_refl _, by simp [maxLen], fun j u hj => ?_⟩⟩
              have hb : S W0 wc (F * rpowO q ps * rdevG e q D2 g * vecB 9 1 v1 (0 + s.loose.length) ([] ++ strsV s.loose) * blk gb (.cells #[.string bs] 9 (0, 0))) := hc.perm
              rw [cell_at hb.heap]
              simpa using hj
            refine WS.one (i := 17) rfl (by kernel_rfl) (by rfl) (fun K hK => ?_)
            refine wp_append_K _ _ TStrs rfl hd0 hdr rfl rfl (by simp [Value.oneCell']) (by simp only [maxLen]; omega) (by omega) ?_
            intro v2 wd hd1 _
            simp only [Act.put, List.setIfInBounds_toArray, List.set_cons_zero, List.set_cons_succ]
            have hd : S W0 wd (F * rpowO q ps * vecB 9 1 v2 (0 + s.loose.length + 1) ([] ++ strsV s.loose ++ [.string bs]) * rdevG e q D2 g) := left_mid_S hd1
            clear hd0 hd1 hdr
            refine hK _ _ (fun q hq _ => ?_) ?_
            · simp only [List.mem_cons, List.not_mem_nil, or_false] at hq
              subst hq
              exact hcl _ _ hd
            refine WS.takeP (i := 18) (v := ?_) rfl (by kernel_rfl) (by kernel_rfl) (by kernel_rfl) rfl (fun _ _ _ h => h) (by rfl) (fun w1 => ?_) ?_
            rotate_left 1
            · go_simp; try with_reducible rfl
            try simp only [Act.put, List.setIfInBounds_toArray, List.set_cons_zero, List.set_cons_succ]
            refine WS.takeP (i := 19) (v := ?_) rfl (by kernel_rfl) (by kernel_rfl) (by kernel_rfl) rfl (fun _ _ _ h => h) (by rfl) (fun w1 => ?_) ?_
            rotate_left 1
            · go_simp; try with_reducible rfl
            try simp only [Act.put, List.setIfInBounds_toArray, List.set_cons_zero, List.set_cons_succ]
            obtain ⟨av, nv, mv, rfl⟩ : ∃ av nv mv, v2 = .slice av nv mv := by
              have hb : S W0 wd (F * rpowO q ps * rdevG e q D2 g * vecB 9 1 v2 (0 + s.loose.length + 1) ([] ++ strsV s.loose ++ [.string bs])) := hd.perm
              rcases S.vec hb with ⟨rfl, _⟩ | ⟨_, _, _, rfl, _⟩ <;> exact ⟨_, _, _, rfl⟩
            have k1 := (hcl _ _ hd).2
            have k2 := hfr _ _ hd
            have hfin := hput _ _ hd
            refine WS.one (i := 20) rfl (by kernel_rfl) (by rfl) (fun K hK => ?_)
            go_simp
            refine hK _ _ (fun q hq hq2 => ?_) ?_
            · simp only [List.mem_cons, List.not_mem_nil, or_false] at hq
              subst hq
              revert hq2
              simp
            refine WS.done (by kernel_rfl) ?_
            clear k1 k2 hd
            generalize wd.setCell ⟨g.sb, i * 3 + 1, none⟩ (.slice av nv mv) = wz at hfin ⊢
            go_wp2
            go_ret
            exact ⟨rfl, hfin⟩
        · skip
          go_simp
          have ha1 := (hsd.alloc (.cells #[.string bs] 9))
          generalize w4.heap.size = gb at ha1 ⊢
          generalize w4.alloc (.cells #[.string bs] 9) = wa at ha1 ⊢
          have ha : S W0 wa (F * rpowO q ps * blk gb (.cells #[.string bs] 9 (0, 0)) * rdevG e q D2 g) := ha1.perm
          clear ha1
          refine hK _ _ (fun q hq _ => ?_) ?_
          · simp only [List.mem_cons, List.not_mem_nil, or_false] at hq
            subst hq
            exact hcl _ _ ha
          refine WS.one (i := 5) rfl (by kernel_rfl) (by rfl) (fun K hK => ?_)
          go_simp
          have hb0 := (ha.alloc (.cells #[] 9))
          have hb1 := S.to_vec (T := 9) (k := 1) (n := 0) (m := 0) (cs := []) (spare := []) hb0 rfl rfl (Nat.le_refl _) (by simp [maxLen])
          generalize hva : Value.slice (some ⟨wa.heap.size, 0, none⟩) 0 0 = va at hb1 ⊢
          generalize wa.alloc (.cells #[] 9) = wb at hb1 ⊢
          have hb : S W0 wb (F * rpowO q ps * blk gb (.cells #[.string bs] 9 (0, 0)) * vecB 9 1 va 0 [] * rdevG e q D2 g) := hb1.perm
          clear hb0 hb1 hva
          refine hK _ _ (fun q hq _ => ?_) ?_
          · simp only [List.mem_cons, List.not_mem_nil, or_false] at hq
            subst hq
            exact hcl _ _ hb
          refine WS.one (i := 14) rfl (by kernel_rfl) (by rfl) (fun K hK => ?_)
          have hc0 : S W0 wb (F * rpowO q ps * blk gb (.cells #[.string bs] 9 (0, 0)) * rdevG e q D2 g * vecB 9 1 va 0 []) := hb.perm
          refine wp_append_K _ _ TStrs rfl hc0 (hrl _ _ hb) rfl rfl hone (by simp only [maxLen]; omega) (by omega) ?_
          intro v1 wc hc1 _
          simp only [Act.put, List.setIfInBounds_toArray, List.set_cons_zero, List.set_cons_succ]
          have hc : S W0 wc (F * rpowO q ps * blk gb (.cells #[.string bs] 9 (0, 0)) * vecB 9 1 v1 (0 + s.loose.length) ([] ++ strsV s.loose) * rdevG e q D2 g) := hc1.perm
          clear hc0 hc1
          refine hK _ _ (fun q hq _ => ?_) ?_
          · simp only [List.mem_cons, List.not_mem_nil, or_false] at hq
            subst hq
            exact hcl _ _ hc
          have hd0 : S W0 wc (F * rpowO q ps * blk gb (.cells #[.string bs] 9 (0, 0)) * rdevG e q D2 g * vecB 9 1 v1 (0 + s.loose.length) ([] ++ strsV s.loose)) := hc.perm
          have hdr : Reads wc 1 (.slice (some ⟨gb, 0, none⟩) 1 1) 1 [.string bs] := by
            refine ⟨rfl, .inr ⟨_, _, _, rfl, Nat.le_refl _, by simp [maxLen], fun j u hj => ?_⟩⟩
            have hb : S W0 wc (F * rpowO q ps * rdevG e q D2 g * vecB 9 1 v1 (0 + s.loose.length) ([] ++ strsV s.loose) * blk gb (.cells #[.string bs] 9 (0, 0))) := hc.perm
            rw [cell_at hb.heap]
            simpa using hj
          refine WS.one (i := 17) rfl (by kernel_rfl) (by rfl) (fun K hK => ?_)
          refine wp_append_K _ _ TStrs rfl hd0 hdr rfl rfl (by simp [Value.oneCell']) (by simp only [maxLen]; omega) (by omega) ?_
          intro v2 wd hd1 _
          simp only [Act.put, List.setIfInBounds_toArray, List.set_cons_zero, List.set_cons_succ]
          have hd : S W0 wd (F * rpowO q ps * vecB 9 1 v2 (0 + s.loose.length + 1) ([] ++ strsV s.loose ++ [.string bs]) * rdevG e q D2 g) := left_mid_S hd1
          clear hd0 hd1 hdr
          refine hK _ _ (fun q hq _ => ?_) ?_
          · simp only [List.mem_cons, List.not_mem_nil, or_false] at hq
            subst hq
            exact hcl _ _ hd
          refine WS.takeP (i := 18) (v := ?_) rfl (by kernel_rfl) (by kernel_rfl) (by kernel_rfl) rfl (fun _ _ _ h => h) (by rfl) (fun w1 => ?_) ?_
          rotate_left 1
          · go_simp; try with_reducible rfl
          try simp only [Act.put, List.setIfInBounds_toArray, List.set_cons_zero, List.set_cons_succ]
          refine WS.takeP (i := 19) (v := ?_) rfl (by kernel_rfl) (by kernel_rfl) (by kernel_rfl) rfl (fun _ _ _ h => h) (by rfl) (fun w1 => ?_) ?_
          rotate_left 1
          · go_simp; try with_reducible rfl
          try simp only [Act.put, List.setIfInBounds_toArray, List.set_cons_zero, List.set_cons_succ]
          obtain ⟨av, nv, mv, rfl⟩ : ∃ av nv mv, v2 = .slice av nv mv := by
            have hb : S W0 wd (F * rpowO q ps * rdevG e q D2 g * vecB 9 1 v2 (0 + s.loose.length + 1) ([] ++ strsV s.loose ++ [.string bs])) := hd.perm
            rcases S.vec hb with ⟨rfl, _⟩ | ⟨_, _, _, rfl, _⟩ <;> exact ⟨_, _, _, rfl⟩
          have k1 := (hcl _ _ hd).2
          have k2 := hfr _ _ hd
          have hfin := hput _ _ hd
          refine WS.one (i := 20) rfl (by kernel_rfl) (by rfl) (fun K hK => ?_)
          go_simp
          refine hK _ _ (fun q hq hq2 => ?_) ?_
          · simp only [List.mem_cons, List.not_mem_nil, or_false] at hq
            subst hq
            revert hq2
            simp
          refine WS.done (by kernel_rfl) ?_
          clear k1 k2 hd
          generalize wd.setCell ⟨g.sb, i * 3 + 1, none⟩ (.slice av nv mv) = wz at hfin ⊢
          go_wp2
          go_ret
          exact ⟨rfl, hfin⟩
end
end Go.Proofs.Ytnkjkkbjplneeaa
