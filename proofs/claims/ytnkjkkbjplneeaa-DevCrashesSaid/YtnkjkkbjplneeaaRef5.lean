/-
  What the document's Flush does.
-/
import Derived.Test.YtnkjkkbjplneeaaRef4
namespace Go.Proofs.Ytnkjkkbjplneeaa
open Go.RowKit Go.SL
set_option maxRecDepth 100000
set_option linter.unusedSimpArgs false
set_option linter.unusedVariables false
theorem flushed_loose (s : Sec) : (flushed s).loose = [] := by
  unfold flushed; split
  · rename_i h; exact h
  · rfl
section
variable {W0 w : World} {F : HProp} {q e : Nat} {D : DevA} {g : RG}
/-- The length of a sector's loose writes, as it lies in memory. -/
theorem rdev_lv (h : S W0 w (F * rdevG e q D g)) (hl : g.lvs.length = D.secs.length) {i : Nat} {s : Sec} (hi : D.secs[i]? = some s) :
    ∃ ad m, w.cell? ⟨g.sb, i * 3 + 1, none⟩ = some (.slice ad s.loose.length m) ∧ Reads w 1 (.slice ad s.loose.length m) s.loose.length (strsV s.loose) := by
  obtain ⟨lv, hlv, d0, d1, d2, fr2⟩ := rdevG.at h hl hi
  have k := (rdevG.top h).p2
  rw [strsO_get hl hi hlv] at k
  have k2 := k.assoc
  unfold strsO at k2
  have hr := k2.reads
  rcases S.vec k2 with ⟨rfl, h0, _⟩ | ⟨gb, m, spare, rfl, _⟩
  · rw [h0] at hr ⊢; exact ⟨none, 0, d1, hr⟩
  · exact ⟨_, m, d1, hr⟩
end
section
variable (W0 w : World) (F : HProp) (e q : Nat) (D : DevA)
set_option maxHeartbeats 2000000 in
theorem RefFlush (p : PowA) (hp : p.ok) (hs : S W0 w (F * rpowO q p * rdevO e q D)) :
    Calls Try.prog 40 #[.pointer (some ⟨e, 0, none⟩)] w fun e' w' => e' = .returned (.int .i64 (DevA.flushE p)) ∧ S W0 w' (F * rpowO q (DevA.flushP p) * rdevO e q (DevA.flushS p D)) := by
  obtain ⟨c0, c2, c3, fr, ho⟩ := rdevO.cells hs
  obtain ⟨left, hl, h⟩ := rpowO.open hs.p1
  have d0 : w.cell? ⟨q, 0, none⟩ = some (.bool p.off) := cell_at h.heap
  unfold DevA.flushE DevA.flushP DevA.flushS
  clear h hl c2 c3 fr
  by_cases h1 : p.off = true
  · rw [h1] at d0
    rw [if_pos h1, if_pos h1, if_pos h1]
    go_enter Try.func40, Try.ntmps40
    go_wp2
    go_ret
    exact ⟨rfl, hs⟩
  rw [if_neg h1, if_neg h1, if_neg h1]
  have h1' : p.off = false := by simpa using h1
  rw [h1'] at d0
  have hspend := RPowSpend W0 w (F * rdevO e q D) q p hp hs.perm
  clear h1' h1
  cases h4 : p.spendB with
  | false =>
    rw [h4] at hspend
    simp only [if_true]
    go_enter Try.func40, Try.ntmps40
    go_wp2_with (first | (go_at_call 53; refine (hspend).mono ?_; rintro e w' ⟨rfl, hs1⟩))
    go_ret
    exact ⟨rfl, hs1.perm⟩
  | true =>
    rw [h4] at hspend
    simp only [Bool.true_eq_false, if_false]
    generalize p.spendS = ps at *
    have hlenD : D.secs.length ≤ 4096 := ho.2.2.1
    have HO := Lib.hid ho
    clear hs ho
    go_enter Try.func40, Try.ntmps40
    go_wp2_with fail
    refine hspend.mono ?_
    rintro e' w2 ⟨rfl, hs1⟩
    have hs2 : S W0 w2 (F * rpowO q ps * rdevO e q D) := hs1.perm
    clear hspend hs1 c0 d0
    go_wp2
    generalize hns : D.secs.length = ns at *
    have HNS := Lib.hid hns
    clear hns
    go_loopw [3] (fun vi wr => ∃ (i : Nat) (X : List Sec), vi = .int .i64 i ∧ i ≤ ns ∧ X.length = ns ∧ (∀ (j : Nat) (s : Sec), D.secs[j]? = some s → X[j]? = some (if j < i then flushed s else s)) ∧
      S W0 wr (F * rpowO q ps * rdevO e q { D with secs := X })) (fun vi _ => ns - (intOf vi).toNat)
    case atStart => exact ⟨0, D.secs, rfl, by omega, HNS.out, fun j s hj => by simpa using hj, hs2⟩
    case round =>
      clear hs2
      obtain ⟨i, X, rfl, hi, hXl, hX, hs2⟩ := hrel
      obtain ⟨g, hl, hoX, hsg⟩ := rdevO.open hs2
      obtain ⟨c0, c1, c2, c3, fr⟩ := rdevG.cells hsg
      simp only [hXl] at c1
      clear c0 c2 c3 fr
      by_cases hlt : i < ns
      · obtain ⟨s, hsi⟩ : ∃ s, D.secs[i]? = some s := ⟨D.secs[i]'(by rw [HNS.out]; exact hlt), by simp [HNS.out, hlt]⟩
        have hXi := hX i s hsi
        rw [if_neg (by omega)] at hXi
        obtain ⟨ad, m, dl, hrd⟩ := rdev_lv hsg hl hXi
        have i0 : (0 : Int) ≤ i := by omega
        have i1 : (i : Int) < ns := by omega
        have HX := Lib.hid (⟨hX, hXl, hsi⟩ : _ ∧ _ ∧ _)
        by_cases hlo : s.loose = []
        · have hfl : flushed s = s := by simp [flushed, hlo]
          rw [hlo] at dl
          simp only [List.length_nil] at dl
          clear hsg hl hoX hX hXl hXi hrd hsi
          go_wp2
          go_roundw
          case rel =>
            obtain ⟨hX, hXl, hsi⟩ := HX.out
            refine ⟨i + 1, X, by go_num, by omega, hXl, fun j s' hj => ?_, hs2⟩
            rw [hX j s' hj]
            by_cases hji : j = i
            · subst hji
              rw [hsi] at hj; cases hj
              simp [hfl]
            · by_cases h : j < i
              · rw [if_pos h, if_pos (by omega)]
              · rw [if_neg h, if_neg (by omega)]
          case measure => simp [intOf]; omega
        · have hpos : 0 < s.loose.length := by cases hx : s.loose with | nil => exact absurd hx hlo | cons a l => simp
          have hpos' : (0 : Int) < s.loose.length := by omega
          have hstands := RefStands W0 wr.drew _ e q { D with secs := X } i s hXi hs2.drew
          have hfl : flushed s = ⟨s.stands, [], false⟩ := by simp [flushed, hlo]
          have hsok : s.Ok := HO.out.2.2.2 s (List.mem_of_getElem? hsi)
          obtain ⟨lv, hlv, _, x1, x2, fr2⟩ := rdevG.at hsg hl hXi
          have hx0 : ∃ u, wr.cell? ⟨g.sb, i * 3, none⟩ = some u := ⟨_, (rdevG.at hsg hl hXi).choose_spec.2.1⟩
          obtain ⟨u0, x0⟩ := hx0
          have y0 := fr2 (i * 3)
          have y1 := fr2 (i * 3 + 1)
          have y2 := fr2 (i * 3 + 2)
          have hput := (rdev_put hsg hl hoX hXi ⟨s.stands, [], false⟩ ⟨hsok.stands, by simp⟩ rfl).drew
          simp only at hput
          unfold strV at hput hstands
          generalize hln : s.loose.length = ln at *
          rw [x1] at dl
          obtain rfl := Option.some.inj dl
          clear hsg hl hoX hX hXl hXi hrd hsi hsok hlv hln
          go_wp2
          refine wp_region_S [(10, fun w => w.cell? ⟨e, 1, none⟩ = some (.slice (some ⟨g.sb, 0, none⟩) ns ns))] rfl ?_ ?_
          · simp only [List.mem_cons, List.not_mem_nil, or_false, forall_eq]
            exact c1
          refine WS.takeP (i := 0) (v := ?_) rfl (by kernel_rfl) (by kernel_rfl) (by kernel_rfl) rfl (fun _ _ _ h => h) (by rfl) (fun w1 => ?_) ?_
          rotate_left 1
          · go_simp; try with_reducible rfl
          try simp only [Act.put, List.setIfInBounds_toArray, List.set_cons_zero, List.set_cons_succ]
          refine WS.takeP (i := 1) (v := ?_) rfl (by kernel_rfl) (by kernel_rfl) (by kernel_rfl) rfl (fun _ _ _ h => h) (by rfl) (fun w1 => ?_) ?_
          rotate_left 1
          · go_simp; try with_reducible rfl
          try simp only [Act.put, List.setIfInBounds_toArray, List.set_cons_zero, List.set_cons_succ]
          refine WS.takeP (i := 2) (v := ?_) rfl (by kernel_rfl) (by kernel_rfl) (by kernel_rfl) rfl (fun _ _ _ h => h) (by rfl) (fun w1 => ?_) ?_
          rotate_left 1
          · go_simp; try with_reducible rfl
          try simp only [Act.put, List.setIfInBounds_toArray, List.set_cons_zero, List.set_cons_succ]
          refine WS.takeR (i := 3) (v := ?_) (10) _ (by first | exact .head _ | exact .tail _ (.head _) | exact .tail _ (.tail _ (.head _))) rfl (by kernel_rfl) (by kernel_rfl) (by kernel_rfl) rfl (by kernel_rfl) rfl (fun _ _ _ h => h) (by rfl) (fun w1 hR => ?_) ?_
          rotate_left 1
          · (skip); go_simp; try with_reducible rfl
          try simp only [Act.put, List.setIfInBounds_toArray, List.set_cons_zero, List.set_cons_succ]
          refine WS.takeP (i := 4) (v := ?_) rfl (by kernel_rfl) (by kernel_rfl) (by kernel_rfl) rfl (fun _ _ _ h => h) (by rfl) (fun w1 => ?_) ?_
          rotate_left 1
          · go_simp; try with_reducible rfl
          try simp only [Act.put, List.setIfInBounds_toArray, List.set_cons_zero, List.set_cons_succ]
          refine WS.takeP (i := 5) (v := ?_) rfl (by kernel_rfl) (by kernel_rfl) (by kernel_rfl) rfl (fun _ _ _ h => h) (by rfl) (fun w1 => ?_) ?_
          rotate_left 1
          · go_simp; try with_reducible rfl
          try simp only [Act.put, List.setIfInBounds_toArray, List.set_cons_zero, List.set_cons_succ]
          refine WS.takeP (i := 6) (v := ?_) rfl (by kernel_rfl) (by kernel_rfl) (by kernel_rfl) rfl (fun _ _ _ h => h) (by rfl) (fun w1 => ?_) ?_
          rotate_left 1
          · go_simp; try with_reducible rfl
          try simp only [Act.put, List.setIfInBounds_toArray, List.set_cons_zero, List.set_cons_succ]
          refine WS.one (i := 7) rfl (by kernel_rfl) (by rfl) (fun K hK => ?_)
          go_simp
          refine hstands.mono ?_
          rintro e' w' ⟨rfl, rfl⟩
          refine hK _ _ (fun q hq _ => ?_) ?_
          · simp only [List.mem_cons, List.not_mem_nil, or_false] at hq
            subst hq
            exact c1
          refine WS.takeP (i := 8) (v := ?_) rfl (by kernel_rfl) (by kernel_rfl) (by kernel_rfl) rfl (fun _ _ _ h => h) (by rfl) (fun w1 => ?_) ?_
          rotate_left 1
          · go_simp; try with_reducible rfl
          try simp only [Act.put, List.setIfInBounds_toArray, List.set_cons_zero, List.set_cons_succ]
          refine WS.takeP (i := 9) (v := ?_) rfl (by kernel_rfl) (by kernel_rfl) (by kernel_rfl) rfl (fun _ _ _ h => h) (by rfl) (fun w1 => ?_) ?_
          rotate_left 1
          · go_simp; try with_reducible rfl
          try simp only [Act.put, List.setIfInBounds_toArray, List.set_cons_zero, List.set_cons_succ]
          refine WS.one (i := 10) rfl (by kernel_rfl) (by rfl) (fun K hK => ?_)
          go_simp
          refine hK _ _ (fun q hq hq2 => ?_) ?_
          · simp only [List.mem_cons, List.not_mem_nil, or_false] at hq
            subst hq
            revert hq2
            simp
          refine WS.done (by kernel_rfl) ?_
          generalize (((wr.setCell ⟨g.sb, i * 3, none⟩ (.string ⟨s.stands.toArray⟩)).setCell ⟨g.sb, i * 3 + 1, none⟩ (.slice none 0 0)).setCell ⟨g.sb, i * 3 + 2, none⟩ (.bool false)).drew = wz at hput ⊢
          clear hstands x0 x1 x2 y0 y1 y2 fr2 c1
          go_wp2
          go_roundw
          case rel =>
            obtain ⟨hX, hXl, hsi⟩ := HX.out
            refine ⟨i + 1, _, by go_num, by omega, by simp; exact hXl, fun j s' hj => ?_, hput⟩
            simp only [List.getElem?_set]
            by_cases hij : i = j
            · subst hij
              rw [hsi] at hj; cases hj
              simp [show i < X.length by omega, hfl]
            · rw [if_neg hij, hX j s' hj]
              by_cases h : j < i
              · rw [if_pos h, if_pos (by omega)]
              · rw [if_neg h, if_neg (by omega)]
          case measure => simp [intOf]; omega
      · have hin : ns = i := by omega
        subst hin
        have hXE : X = D.secs.map flushed := by
          apply List.ext_getElem?
          intro j
          rw [List.getElem?_map]
          cases hj : D.secs[j]? with
          | none =>
            have h1 := List.getElem?_eq_none_iff.1 hj
            have h2 : X[j]? = none := by rw [List.getElem?_eq_none_iff]; have := HNS.out; omega
            rw [h2]; rfl
          | some s =>
            have := (List.getElem?_eq_some_iff.1 hj).1
            rw [hX j s hj, if_pos (by have := HNS.out; omega)]; rfl
        subst hXE
        clear hsg hl hoX hX
        go_wp2
        go_ret
        exact ⟨rfl, hs2⟩
end
end Go.Proofs.Ytnkjkkbjplneeaa
