/-
  What the document's Rot does.
-/
import Derived.Test.YtnkjkkbjplneeaaRef4
import Derived.Test.YtnkjkkbjplneeaaRefTurn
import Derived.Test.YtnkjkkbjplneeaaDevRot
namespace Go.Proofs.Ytnkjkkbjplneeaa
open Go.RowKit Go.SL
set_option maxRecDepth 100000
set_option linter.unusedSimpArgs false
set_option linter.unusedVariables false
theorem run_bytes_S {P : Program} {W0 w : World} {F : HProp} {src dst e : TypeId} (hs : P.underlying src = some .string) (hd : P.underlying dst = some (.slice e)) (he : P.underlying e = some (.int .u8)) (l : List UInt8) (hl : l.length ≤ maxLen) (h : S W0 w F) :
    ∃ g cap C fr w', (convert src dst (strV l)).run P w = .ok (.slice (some ⟨g, 0, none⟩) l.length cap) w' ∧ S W0 w' (F * blk g (.cells C e fr)) ∧ l.length ≤ cap ∧ cap ≤ maxLen ∧ ∀ (j : Nat) (u : Value), (u8s l)[j]? = some u → C[j]? = some u := by
  have hr := run_bytes_of_string (P := P) w src dst e ⟨l.toArray⟩ hs hd he
  have hsz : (⟨l.toArray⟩ : ByteArray).size = l.length := by simp [ByteArray.size]
  rw [hsz] at hr
  refine ⟨_, _, _, _, _, hr, h.drew.alloc _, grownCap_ge w _ 0 e, grownCap_le_maxLen w _ 0 e hl, fun j u hj => ?_⟩
  have hjl : j < l.length := by
    have := (List.getElem?_eq_some_iff.1 hj).1
    simpa [u8s] using this
  unfold bytesRow
  rw [Array.getElem?_append_left (by simpa using hjl)]
  simpa [u8s] using hj
theorem reads_row {w : World} {g cap T : Nat} {C : Array Value} {fr : Nat × Nat} {l : List UInt8} (hb : w.heap[g]? = some (.cells C T fr)) (h1 : l.length ≤ cap) (h2 : cap ≤ maxLen) (h3 : ∀ (j : Nat) (u : Value), (u8s l)[j]? = some u → C[j]? = some u) :
    Reads w 1 (.slice (some ⟨g, 0, none⟩) l.length cap) l.length (u8s l) :=
  ⟨by simp [u8s], .inr ⟨g, 0, cap, rfl, h1, h2, fun j u hj => by rw [cell_at hb, Nat.zero_add]; exact h3 j u hj⟩⟩
section
variable (W0 w : World) (F : HProp) (e q : Nat) (D : DevA)
set_option maxHeartbeats 2000000 in
theorem RefRot (at_ bit turn : Int) (ht : 0 ≤ turn ∧ turn ≤ 4294967295) (hs : S W0 w (F * rdevO e q D)) :
    Calls Try.prog 41 #[.pointer (some ⟨e, 0, none⟩), .int .i64 at_, .int .i64 bit, .int .u32 turn] w fun e' w' => e' = .returned (.int .i64 (D.rotE at_ bit turn)) ∧ S W0 w' (F * rdevO e q (D.rotS at_ bit turn)) := by
  have hhas := RefHas W0 w F e q D at_ hs
  unfold DevA.rotS DevA.rotE
  cases h1 : D.has at_ with
  | false =>
    rw [h1] at hhas
    simp only [if_true]
    go_enter Try.func41, Try.ntmps41
    go_wp2_with (first | (go_at_call 52; refine (hhas).mono ?_; rintro e w' ⟨rfl, rfl⟩))
    go_ret
    exact ⟨rfl, hs⟩
  | true =>
    rw [h1] at hhas
    simp only [Bool.true_eq_false, if_false]
    by_cases h2 : bit < 0
    · simp only [h2, if_true]
      go_enter Try.func41, Try.ntmps41
      go_wp2_with (first | (go_at_call 52; refine (hhas).mono ?_; rintro e w' ⟨rfl, rfl⟩))
      go_ret
      exact ⟨rfl, hs⟩
    simp only [h2, if_false]
    by_cases h3 : 512 ≤ bit
    · simp only [h3, if_true]
      go_enter Try.func41, Try.ntmps41
      go_wp2_with (first | (go_at_call 52; refine (hhas).mono ?_; rintro e w' ⟨rfl, rfl⟩))
      go_ret
      exact ⟨rfl, hs⟩
    simp only [h3, if_false]
    obtain ⟨i, s, rfl, hi, _⟩ := has_get h1
    have hsec : D.secAt (i : Int) = s := by simp [DevA.secAt, hi]
    rw [hsec]
    unfold DevA.rotL
    rw [hsec]
    clear hsec h1
    obtain ⟨g, hgl, ho, hsg⟩ := rdevO.open hs
    obtain ⟨c0, c1, c2, c3, fr⟩ := rdevG.cells hsg
    obtain ⟨lv, hlv, d0, d1, d2, fr2⟩ := rdevG.at hsg hgl hi
    have hlt := (List.getElem?_eq_some_iff.1 hi).1
    have i0 : (0 : Int) ≤ i := by omega
    have i1 : (i : Int) < D.secs.length := by omega
    have hle : s.fixed.length = 64 := (ho.2.2.2 s (List.mem_of_getElem? hi)).1
    have hls : ∃ ad m, lv = .slice ad s.loose.length m ∧ s.loose.length ≤ maxLen := by
      have hst := strsO_get hgl hi hlv
      have k := (rdevG.top hsg).p2
      rw [hst] at k
      have k2 := k.assoc
      unfold strsO at k2
      rcases S.vec k2 with ⟨rfl, h0, _⟩ | ⟨gb, m, spare, rfl, q1, q2, q3, q4, k3⟩
      · rw [h0]; exact ⟨_, _, rfl, by simp [maxLen]⟩
      · exact ⟨_, _, rfl, by omega⟩
    obtain ⟨lad, lm, rfl, hll⟩ := hls
    cases h4 : s.rotten with
    | true =>
      rw [h4] at d2
      simp only [if_true]
      clear hsg hgl ho hlv hi d0 d1 hle hll c0 c2 c3 fr fr2
      go_enter Try.func41, Try.ntmps41
      go_wp2_with (first | (go_at_call 52; refine (hhas).mono ?_; rintro e w' ⟨rfl, rfl⟩))
      go_ret
      exact ⟨rfl, hs⟩
    | false =>
      rw [h4] at d2
      simp only [Bool.false_eq_true, if_false]
      by_cases h5 : s.loose = []
      rotate_left
      · have hpos : 0 < s.loose.length := by cases hx : s.loose with | nil => exact absurd hx h5 | cons a l => simp
        simp only [ne_eq, h5, not_false_eq_true, if_true]
        generalize s.loose.length = n at *
        have hn : ((0 : Int) < n) = True := by simp; omega
        have hn2 : (n : Int) ≤ 9223372036854775807 := by simp only [maxLen] at hll; omega
        clear hsg hgl ho hlv hi d0 hle hll c0 c2 c3 fr fr2 h5
        go_enter Try.func41, Try.ntmps41
        go_wp2_with (first | (go_at_call 52; refine (hhas).mono ?_; rintro e w' ⟨rfl, rfl⟩))
        go_ret
        exact ⟨rfl, hs⟩
      simp only [ne_eq, h5, not_true_eq_false, if_false]
      rw [h5] at d1
      simp only [List.length_nil] at d1
      obtain ⟨bn, rfl⟩ := Int.eq_ofNat_of_zero_le (show 0 ≤ bit by omega)
      obtain ⟨tn, rfl⟩ := Int.eq_ofNat_of_zero_le ht.1
      simp only [Int.toNat_natCast] at *
      obtain ⟨tl, htl⟩ : ∃ tl, tl = turnN s.fixed bn tn 32 := ⟨_, rfl⟩
      have htlen : tl.length = 64 := by rw [htl, turnN_length, hle]
      obtain ⟨gb, cap, C, cfr, w1, hcv, hs1, hc1, hc2, hc3⟩ := run_bytes_S (P := Try.prog) Try.underlying9 Try.underlying44 Try.underlying5 s.fixed (by simp only [maxLen]; omega) hsg
      have hturn := RefTurn W0 w1 _ (.slice (some ⟨gb, 0, none⟩) s.fixed.length cap) s.fixed bn tn (by omega) (by omega) (by omega) (fun w h => reads_row (S.heap h) hc1 hc2 hc3) hs1
      rw [← htl] at hturn
      simp only [← htl]
      obtain ⟨zf, hzf⟩ : ∃ zf, strV s.fixed = .string zf := ⟨_, rfl⟩
      rw [hzf] at d0 hcv
      obtain ⟨zt, hzt⟩ : ∃ zt, strV tl = .string zt := ⟨_, rfl⟩
      have hzz : zt = zf ↔ tl = s.fixed := by
        rw [← strV_inj, hzf, hzt]
        simp
      have hcv2 : ∀ (v : Value) (w : World) (G : HProp), S W0 w (G * bytesV v 5 tl) → (convert 44 9 v).run Try.prog w = .ok (.string zt) w := fun v w G h => by
        rw [← hzt]
        exact run_str_S Try.underlying44 Try.underlying5 Try.underlying9 (S.reads h)
      have H1 := Lib.hid (⟨hle, htlen, h5, hzf, hzt, hgl, ho, hlv, hi, h4, hcv2⟩ : _ ∧ _ ∧ _ ∧ _ ∧ _ ∧ _ ∧ _ ∧ _ ∧ _ ∧ _ ∧ _)
      have HZ := Lib.hid hzz
      clear hzz hle htlen h5 hzf hzt hgl ho hlv hi h4 hcv2 htl hsg hs hc1 hc2 hc3 hs1
      have hp0 : ((bn : Int) < 0) = False := by simp
      by_cases h6 : tl = s.fixed
      · simp only [h6, if_true]
        have H6 := Lib.hid h6
        obtain rfl : zt = zf := HZ.out.2 h6
        clear h6
        go_enter Try.func41, Try.ntmps41
        go_wp2_with (first | (go_at_call 52; refine (hhas).mono ?_; rintro e w' ⟨rfl, rfl⟩))
        refine hturn.mono ?_
        rintro e' w2 ⟨v1, rfl, hs2⟩
        have hsg2 := hs2.left.left
        have hcv2 := H1.out.2.2.2.2.2.2.2.2.2.2 v1 w2 _ hs2
        obtain ⟨c0', c1', c2', c3', fr'⟩ := rdevG.cells hsg2
        obtain ⟨lv, _, d0', d1', d2', fr2'⟩ := rdevG.at hsg2 H1.out.2.2.2.2.2.1 H1.out.2.2.2.2.2.2.2.2.1
        rw [H1.out.2.2.2.1] at d0'
        clear hs2 c0' c2' c3' fr' d1' d2' fr2' hturn
        go_wp2
        go_ret
        exact ⟨rfl, rdevO.shut hsg2 H1.out.2.2.2.2.2.1 H1.out.2.2.2.2.2.2.1⟩
      · simp only [h6, if_false]
        have hne : (zt.toList == zf.toList) = false := by
          have hne : ¬ zt = zf := fun h => h6 (HZ.out.1 h)
          simp only [ByteArray.toList_eq, beq_eq_false_iff_ne, ne_eq]
          intro h
          apply hne
          cases zt
          cases zf
          simp only [ByteArray.mk.injEq]
          exact Array.toList_inj.1 h
        clear h6
        go_enter Try.func41, Try.ntmps41
        go_wp2_with (first | (go_at_call 52; refine (hhas).mono ?_; rintro e w' ⟨rfl, rfl⟩))
        refine hturn.mono ?_
        rintro e' w2 ⟨v1, rfl, hs2⟩
        have hsg2 := hs2.left.left
        have hcv2 := H1.out.2.2.2.2.2.2.2.2.2.2 v1 w2 _ hs2
        obtain ⟨c0', c1', c2', c3', fr'⟩ := rdevG.cells hsg2
        obtain ⟨lv, _, d0', d1', d2', fr2'⟩ := rdevG.at hsg2 H1.out.2.2.2.2.2.1 H1.out.2.2.2.2.2.2.2.2.1
        rw [H1.out.2.2.2.1] at d0'
        have ff0 := fr2' (i * 3)
        have ff1 := fr2' (i * 3 + 1)
        have ff2 := fr2' (i * 3 + 2)
        have hput := rdev_put hsg2 H1.out.2.2.2.2.2.1 H1.out.2.2.2.2.2.2.1 H1.out.2.2.2.2.2.2.2.2.1 ⟨tl, [], true⟩ ⟨H1.out.2.1, by simp⟩ rfl
        simp only [H1.out.2.2.2.2.1] at hput
        clear hs2 c0' c2' c3' fr' fr2' hturn
        go_wp2
        go_ret
        exact ⟨rfl, hput⟩
end
end Go.Proofs.Ytnkjkkbjplneeaa
