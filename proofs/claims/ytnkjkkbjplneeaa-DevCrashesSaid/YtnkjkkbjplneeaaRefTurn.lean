/-
  Bits turned: the document's.
-/
import Derived.Test.YtnkjkkbjplneeaaTurn
namespace Go.Proofs.Ytnkjkkbjplneeaa
open Go.RowKit Go.SL
set_option maxRecDepth 100000
set_option linter.unusedSimpArgs false
set_option linter.unusedVariables false
section
variable (W0 w : World) (F : HProp)
set_option maxHeartbeats 2000000 in
theorem RefTurn (v : Value) (l : List UInt8) (at_ turn : Nat) (hat : at_ < 100000) (htn : turn < 4294967296) (hll : l.length ≤ 100000) (hr : ∀ w, S W0 w F → Reads w 1 v l.length (u8s l)) (hs : S W0 w F) :
    Calls Try.prog 54 #[v, .int .i64 (at_ : Int), .int .u32 (turn : Int)] w fun e w' => ∃ v', e = .returned v' ∧ S W0 w' (F * bytesV v' 5 (turnN l at_ turn 32)) := by
  have hs0 : S W0 (w.alloc (.cells #[] 5)) (F * vecB 5 1 (.slice (some ⟨w.heap.size, 0, none⟩) 0 0) 0 []) :=
    S.to_vec (spare := []) (by simpa using hs.alloc _) (by simp) (by simp) (Nat.le_refl _) (by simp [maxLen])
  have hr1 := hr _ hs0.left
  obtain ⟨ad, m, rfl⟩ : ∃ ad m, v = .slice ad l.length m := by
    rcases (hr w hs).2 with ⟨rfl, h⟩ | ⟨_, _, _, rfl, _⟩
    · rw [h]; exact ⟨_, _, rfl⟩
    · exact ⟨_, _, rfl⟩
  clear hr hs
  go_enter Try.func54, Try.ntmps54
  go_wp2_with (at_builtin; refine wp_append_S _ _ TU8 rfl rfl hs0 hr1 rfl rfl (u8s_one l) (by simp only [maxLen]; omega) (by omega) ?_)
  intro v1 w1 hs1 _
  clear hs0 hr1
  have hs1' : S W0 w1 (F * bytesV v1 5 l) := by unfold bytesV; simpa using hs1
  clear hs1
  obtain ⟨ad1, m1, rfl⟩ : ∃ ad1 m1, v1 = .slice ad1 l.length m1 := by
    rcases S.vec hs1' with ⟨rfl, h0, _⟩ | ⟨_, m1, _, rfl, _⟩
    · rw [h0]; exact ⟨_, _, rfl⟩
    · exact ⟨_, m1, rfl⟩
  go_wp2
  generalize hln : l.length = ln at *
  have HL := Lib.hid hln
  clear hln
  go_loopw [2, 8] (fun vt vi wr => ∃ i : Nat, vi = .int .i64 i ∧ vt = .int .u32 ((turn / 2 ^ i : Nat) : Int) ∧ i ≤ 32 ∧ S W0 wr (F * bytesV (.slice ad1 ln m1) 5 (turnN l at_ turn i))) (fun _ vi _ => 32 - (intOf vi).toNat)
  case atStart => exact ⟨0, rfl, by simp, by omega, hs1'⟩
  case round =>
    clear hs1'
    obtain ⟨i, rfl, rfl, hi, hs1⟩ := hrel
    by_cases hlt : i < 32
    · have i0 : (0 : Int) ≤ i := by omega
      have i1 : (i : Int) < 32 := by omega
      have hle : turn / 2 ^ i ≤ turn := Nat.div_le_self _ _
      have hstep : turnN l at_ turn (i + 1) = if turnB at_ turn i l.length = true then turnAt (turnN l at_ turn i) (at_ + i) else turnN l at_ turn i := rfl
      have hhalf : turn / 2 ^ i / 2 = turn / 2 ^ (i + 1) := by rw [Nat.pow_succ, Nat.div_div_eq_div_mul]
      rw [HL.out] at hstep
      unfold turnB at hstep
      generalize turn / 2 ^ i = tb at *
      have tb0 : (0 : Int) ≤ tb := by omega
      have tb1 : (tb : Int) < 4294967296 := by omega
      have HH := Lib.hid hhalf
      clear hhalf
      have hnext : Value.int .u32 ((tb : Int) / 2) = Value.int .u32 ((turn / 2 ^ (i + 1) : Nat) : Int) := by rw [← HH.out]; rfl
      have HX := Lib.hid hnext
      clear hnext
      rcases (by omega : tb % 2 = 0 ∨ tb % 2 = 1) with h2 | h2
      · have hb : ((tb : Int) % 2 == 1) = false := by simp; omega
        rw [h2] at hstep
        simp only [Nat.zero_ne_one, decide_false, Bool.false_and, Bool.false_eq_true, if_false] at hstep
        rw [← hstep] at hs1
        clear hstep h2
        go_wp2
        go_roundw
        case rel => exact ⟨i + 1, by go_num, HX.out, by omega, hs1⟩
        case measure => simp [intOf]; omega
      · have hb : ((tb : Int) % 2 == 1) = true := by simp; omega
        rw [h2] at hstep
        simp only [decide_true, Bool.true_and, decide_eq_true_eq] at hstep
        have n1 : -(i : Int) ≤ at_ := by omega
        by_cases h3 : at_ + i < 8 * ln
        · rw [if_pos h3] at hstep
          have n3 : (at_ : Int) < 8 * (ln : Int) - i := by omega
          have HS := Lib.hid hstep
          clear hstep h2
          go_wp2
          have hq : (at_ : Int) + i = ((at_ + i : Nat) : Int) := by omega
          rw [hq]
          clear hq n3 n1
          generalize at_ + i = k at HS h3 ⊢
          obtain ⟨kd, hkd⟩ : ∃ kd, kd = k / 8 := ⟨_, rfl⟩
          obtain ⟨km, hkm⟩ : ∃ km, km = k % 8 := ⟨_, rfl⟩
          have k8 : (k : Int) / 8 = (kd : Int) := by omega
          have k8m : (k : Int) % 8 = (km : Int) := by omega
          have k0 : (0 : Int) ≤ k := by omega
          have kk0 : (0 : Int) ≤ kd := by omega
          have kk1 : (kd : Int) < ln := by omega
          have km0 : (0 : Int) ≤ km := by omega
          have km1 : (km : Int) < 8 := by omega
          have HK := Lib.hid (⟨hkd, hkm⟩ : _ ∧ _)
          clear hkd hkm
          obtain ⟨wo, rfl⟩ : ∃ wo : World, wo = wr := ⟨_, rfl⟩
          go_loop [10, 11] (fun vb vj => ∃ j : Nat, vj = .int .i64 j ∧ vb = .int .u8 ((2 ^ j : Nat) : Int) ∧ j ≤ km) (fun _ vj => km - (intOf vj).toNat)
          case atStart => exact ⟨0, rfl, rfl, by omega⟩
          case round =>
            obtain ⟨j, rfl, rfl, hj⟩ := hrel
            by_cases hjk : j < km
            · have hp : 2 ^ (j + 1) < 256 := by
                have : 2 ^ (j + 1) < 2 ^ 8 := Nat.pow_lt_pow_right (by decide) (by omega)
                omega
              rw [Nat.pow_succ] at hp
              have hpj : Value.int .u8 (((2 ^ j * 2 : Nat)) : Int) = Value.int .u8 ((2 ^ (j + 1) : Nat) : Int) := by rw [Nat.pow_succ]
              have HP := Lib.hid hpj
              clear hpj
              generalize 2 ^ j = pj at *
              have j1 : (j : Int) < km := by omega
              have pj0 : (0 : Int) ≤ pj := by omega
              have pj1 : (pj : Int) * 2 < 256 := by omega
              go_wp2
              go_round
              case rel => exact ⟨j + 1, by go_num, by rw [← HP.out]; go_num, by omega⟩
              case measure => simp [intOf]; omega
            · obtain rfl : j = km := by omega
              have hpos : 0 < ln := by omega
              have hlen : (turnN l at_ turn i).length = ln := by rw [turnN_length, HL.out]
              rcases S.vec hs1 with ⟨_, h0, _⟩ | ⟨gb, mc, spare, he, q1, q2, q3, q4, hs2⟩
              · omega
              simp only [Value.slice.injEq] at he
              obtain ⟨rfl, hz, rfl⟩ := he
              clear hz
              rw [hlen] at q1 q2 q3
              generalize turnN l at_ turn i = cur at *
              obtain ⟨cc, hcc⟩ : ∃ cc, cur[kd]? = some cc := ⟨cur[kd]'(by omega), by simp⟩
              have hcell : wo.cell? ⟨gb, kd, none⟩ = some (.int .u8 (cc.toNat : Int)) := by
                rw [cell_at hs2.heap]
                have : kd < cur.length := by omega
                simp only [u8s, List.getElem?_toArray]
                rw [List.getElem?_append_left (by simpa using this)]
                simp [hcc]
              have hf := free_at (i := kd) hs2.heap
              obtain ⟨nc, hnc⟩ : ∃ nc : UInt8, nc = cc ^^^ UInt8.ofNat (2 ^ j) := ⟨_, rfl⟩
              have hx : bits .xor .u8 (cc.toNat : Int) ((2 ^ j : Nat) : Int) = (nc.toNat : Int) := by rw [hnc]; exact u8_xor_pow2 cc j (by omega)
              have HN := Lib.hid hnc
              have HLC := Lib.hid (⟨hlen, hcc⟩ : _ ∧ _)
              clear hnc hlen hcc
              obtain ⟨pj, hpj⟩ : ∃ pj, pj = 2 ^ j := ⟨_, rfl⟩
              rw [← hpj] at hx ⊢
              have HPJ := Lib.hid hpj
              clear hpj
              go_wp2
              go_roundw
              case rel =>
                refine ⟨i + 1, by go_num, HX.out, by omega, ?_⟩
                have hs3 := hs2.set (i := kd) (v := .int .u8 (nc.toNat : Int))
                have hl2 : (turnN l at_ turn (i + 1)).length = ln := by rw [turnN_length, HL.out]
                have hnew : cur.set kd nc = turnN l at_ turn (i + 1) := by
                  have hcc := HLC.out.2
                  rw [HS.out]
                  rw [HK.out.1] at hcc ⊢
                  rw [turnAt_set hcc, HN.out, HK.out.2]
                rw [u8s_set _ (by have := HLC.out.1; omega), hnew] at hs3
                have hs4 := S.to_vec (k := 1) (n := ln) (m := m1) (cs := u8s (turnN l at_ turn (i + 1))) hs3 (by rw [u8s_length, hl2]; simp) q2 q3 q4
                unfold bytesV
                rw [hl2]
                exact hs4
              case measure => simp [intOf]; omega
        · rw [if_neg h3] at hstep
          rw [← hstep] at hs1
          have n2 : ¬ (at_ : Int) < 8 * (ln : Int) - i := by omega
          have n3 : ((at_ : Int) < 8 * (ln : Int) - i) = False := by simpa using n2
          clear hstep h2 h3 n2
          go_wp2
          go_roundw
          case rel => exact ⟨i + 1, by go_num, HX.out, by omega, hs1⟩
          case measure => simp [intOf]; omega
    · have hi2 : i = 32 := by omega
      subst hi2
      go_wp2
      go_ret
      exact ⟨_, rfl, hs1⟩
end
end Go.Proofs.Ytnkjkkbjplneeaa
