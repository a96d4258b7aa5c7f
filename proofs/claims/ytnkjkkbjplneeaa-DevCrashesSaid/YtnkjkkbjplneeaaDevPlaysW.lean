/-
  The walk of DevPlays.
-/
import Derived.Test.YtnkjkkbjplneeaaLaw08G
import Derived.Test.YtnkjkkbjplneeaaAwake
import Derived.Test.YtnkjkkbjplneeaaActs
namespace Go.Proofs.Ytnkjkkbjplneeaa
open Go.RowKit Go.SL
set_option maxRecDepth 100000
set_option linter.unusedSimpArgs false
set_option linter.unusedVariables false
theorem hyp_fates {W : World} {v : Value} {zs : List Int} (h : ∀ w, Below W.heap.size W w → ReadsW w 1 v zs.length (i64s zs)) : ∀ w, S W w emp → ReadsW w 1 v zs.length (i64s zs) := fun w hs => h w hs.below
theorem TwoSt.start {W w : World} {g : TwoG} {a b : Nat} (h : S W w (emp * sideD g p0 (.new a) (.new b) * sideR g p0 (.new a) (.new b) * twoB g)) : TwoSt W emp g.t a b 0 w := by
  have hn : ∀ n, (DevA.new n).Small 0 := fun n s hs => by
    have := (List.mem_replicate.1 hs).2
    rw [this]; simp [secNew]
  exact ⟨g, p0, .new a, .new b, rfl, ⟨by simp [p0], by simp [p0]⟩, ⟨by simp [DevA.new], by simp [DevA.new]⟩, ⟨hn a, hn b⟩, h⟩
theorem TwoSame (W0 w : World) (F : HProp) (t m0 m1 n : Nat) (hm0 : m0 ≤ 12) (hm1 : m1 ≤ 12) (h : TwoSt W0 F t m0 m1 n w) :
    Calls Try.prog 23 #[.pointer (some ⟨t, 0, none⟩)] w fun e' w' => e' = .returned (.bool true) ∧ TwoSt W0 F t m0 m1 n w' := by
  obtain ⟨g, p, D0, D1, rfl, hp, ⟨rfl, rfl⟩, hsm, hs⟩ := h
  exact (Law08Same W0 w F g p D0 D1 hm0 hm1 hs).mono fun e' w' ⟨h1, h2⟩ => ⟨h1, g, p, D0, D1, rfl, hp, ⟨rfl, rfl⟩, hsm, h2⟩
set_option maxHeartbeats 4000000 in
theorem DevPlaysWalk (W : World) (m0 m1 : Nat) (hm0 : m0 ≤ 255) (hm1 : m1 ≤ 255) (v : Value) (acts : List ActA) (ha : ActsAt W v acts) :
    Calls Try.prog 5 #[.int .u8 (m0 : Int), .int .u8 (m1 : Int), v] W fun e w' => e = .returned (.bool true) ∧ S W w' emp := by
  obtain ⟨ad, cap, rfl, hlen, hel⟩ := ha
  obtain ⟨a, haq⟩ : ∃ a, a = m0 % 10 := ⟨_, rfl⟩
  obtain ⟨b, hbq⟩ : ∃ b, b = m1 % 10 := ⟨_, rfl⟩
  have ha1 : (m0 : Int) % 10 = (a : Int) := by omega
  have hb1 : (m1 : Int) % 10 = (b : Int) := by omega
  have ha0 : (a : Int) < 10 := by omega
  have hb0 : (b : Int) < 10 := by omega
  have hbeg := Law08Begin W W emp a b (by omega) (by omega) (S.start W)
  clear haq hbq
  go_enter Try.func5, Try.ntmps5
  go_wp2_with fail
  refine hbeg.mono ?_
  rintro e w1 ⟨g, rfl, hs1⟩
  have hst := TwoSt.start hs1
  clear hs1 hbeg
  go_wp2
  generalize hL : acts.length = L at *
  have HL := Lib.hid hL
  have HE := Lib.hid hel
  generalize g.t = t at *
  clear hL hel
  simp only [maxLen] at hlen
  go_loopw [9] (fun vi wr => ∃ i : Nat, vi = .int .i64 i ∧ i ≤ 40 ∧ TwoSt W emp t a b i wr) (fun vi _ => 40 - (intOf vi).toNat)
  case atStart => exact ⟨0, rfl, by omega, hst⟩
  case round =>
    clear hst
    obtain ⟨i, rfl, hi, hst⟩ := hrel
    by_cases hlt : i < L ∧ i < 40
    · obtain ⟨h1, h2⟩ := hlt
      obtain ⟨bb, oo, rfl, hbb, hcells⟩ := HE.out (fun h => by have := HL.out; rw [h] at this; simp at this; omega)
      obtain ⟨x, hx⟩ : ∃ x, acts[i]? = some x := ⟨acts[i]'(by rw [HL.out]; exact h1), by simp [HL.out, h1]⟩
      obtain ⟨hrow, hxok, hfa⟩ := hcells i x hx
      have hS : Below W.heap.size W wr := by obtain ⟨_, _, _, _, _, _, _, _, hs⟩ := hst; exact hs.below
      have hrow2 : ∀ j u, x.row[j]? = some u → wr.cell? ⟨bb, oo + i * 11 + j, none⟩ = some u := fun j u hj => by
        rw [hS.cell hbb, Nat.add_assoc]; exact hrow j u hj
      have c0 := hrow2 0 _ rfl
      have c1 := hrow2 1 _ rfl
      have c2 := hrow2 2 _ rfl
      have c3 := hrow2 3 _ rfl
      have c4 := hrow2 4 _ rfl
      have c5 := hrow2 5 _ rfl
      have c6 := hrow2 6 _ rfl
      have c7 := hrow2 7 _ rfl
      have c8 := hrow2 8 _ rfl
      have c9 := hrow2 9 _ rfl
      have c10 := hrow2 10 _ rfl
      have hdo := Law08Do W wr emp t a b i x hxok (hyp_fates hfa) (by omega) (by omega) (by omega) hst
      unfold ActA.row at hdo
      have i0 : (0 : Int) ≤ i := by omega
      have i1 : (i : Int) < L := by omega
      have i2 : (i : Int) < 40 := by omega
      clear hrow hrow2 hcells hfa hx hst hxok
      simp only [Nat.add_zero] at c0
      go_wp2_with fail
      refine hdo.mono ?_
      rintro e w2 ⟨rfl, hst2⟩
      have hsa := TwoSame W w2 emp t a b (i + 1) (by omega) (by omega) hst2
      clear hdo hst2 hS c0 c1 c2 c3 c4 c5 c6 c7 c8 c9 c10
      go_wp2_with fail
      refine hsa.mono ?_
      rintro e w3 ⟨rfl, hst3⟩
      clear hsa
      go_wp2
      go_roundw
      case rel => exact ⟨i + 1, by go_num, by omega, hst3⟩
      case measure => simp [intOf]; omega
    · have hsa := TwoSame W wr emp t a b i (by omega) (by omega) hst
      clear hst
      have i0 : (0 : Int) ≤ i := by omega
      by_cases hlt1 : i < L
      · have i1 : (i : Int) < L := by omega
        have i2 : ¬ (i : Int) < 40 := by omega
        clear hlt
        go_wp2_with fail
        refine hsa.mono ?_
        rintro e w3 ⟨rfl, hst3⟩
        obtain ⟨_, _, _, _, _, _, _, _, hs⟩ := hst3
        have haw := Law08Awake W w3 _ hs.left.left.left
        go_wp2_with fail
        refine haw.mono ?_
        rintro e w4 ⟨rfl, hs4⟩
        go_wp2
        go_ret
        exact ⟨rfl, hs4⟩
      · have i1 : ¬ (i : Int) < L := by omega
        clear hlt
        go_wp2_with fail
        refine hsa.mono ?_
        rintro e w3 ⟨rfl, hst3⟩
        obtain ⟨_, _, _, _, _, _, _, _, hs⟩ := hst3
        have haw := Law08Awake W w3 _ hs.left.left.left
        go_wp2_with fail
        refine haw.mono ?_
        rintro e w4 ⟨rfl, hs4⟩
        go_wp2
        go_ret
        exact ⟨rfl, hs4⟩
end Go.Proofs.Ytnkjkkbjplneeaa
