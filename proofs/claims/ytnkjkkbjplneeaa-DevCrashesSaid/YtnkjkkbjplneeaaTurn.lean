/-
  Bits turned.
-/
import Derived.Test.YtnkjkkbjplneeaaBytes
import Derived.Test.YtnkjkkbjplneeaaSLRegion
namespace Go.Proofs.Ytnkjkkbjplneeaa
open Go.RowKit Go.SL
set_option maxRecDepth 100000
set_option linter.unusedSimpArgs false
set_option linter.unusedVariables false
/-- Octets, of which bits are turned. -/
def turnAt (l : List UInt8) (k : Nat) : List UInt8 := l.modify (k / 8) fun c => c ^^^ UInt8.ofNat (2 ^ (k % 8))
def turnB (at_ turn i : Nat) (n : Nat) : Bool := decide (turn / 2 ^ i % 2 = 1) && decide (at_ + i < 8 * n)
def turnN (l : List UInt8) (at_ turn : Nat) : Nat → List UInt8
  | 0 => l
  | i + 1 => if turnB at_ turn i l.length = true then turnAt (turnN l at_ turn i) (at_ + i) else turnN l at_ turn i
theorem turnN_length (l : List UInt8) (at_ turn : Nat) : ∀ i, (turnN l at_ turn i).length = l.length
  | 0 => rfl
  | i + 1 => by
    rw [turnN]
    split
    · rw [turnAt, List.length_modify, turnN_length]
    · exact turnN_length l at_ turn i
theorem u32_and1 (n : Int) (h0 : 0 ≤ n) (h1 : n < 4294967296) : bits .and .u32 n 1 = n % 2 := by
  have h2 : (BitVec.ofInt 32 1).toNat = 2 ^ 1 - 1 := by decide
  have key : (BitVec.ofInt 32 n &&& BitVec.ofInt 32 1).toNat = (n % ((2 ^ 32 : Nat) : Int)).toNat % 2 ^ 1 := by
    rw [BitVec.toNat_and, BitVec.toNat_ofInt, h2, Nat.and_two_pow_sub_one_eq_mod]
  show IntKind.u32.wrap ((BitVec.ofInt 32 n &&& BitVec.ofInt 32 1).toNat : Nat) = n % 2
  rw [key, IntKind.wrap_u32]
  omega
theorem run_shl8 {P : Program} {w : World} (km : Nat) (h : km < 8) : (Op.shift .shl .u8 1 .i64 (km : Int)).run P w = .ok (.int .u8 ((2 ^ km : Nat) : Int)) w := by
  rcases (by omega : km = 0 ∨ km = 1 ∨ km = 2 ∨ km = 3 ∨ km = 4 ∨ km = 5 ∨ km = 6 ∨ km = 7) with rfl | rfl | rfl | rfl | rfl | rfl | rfl | rfl <;> rfl
theorem u8_xor (c d : UInt8) : bits .xor .u8 (c.toNat : Int) (d.toNat : Int) = ((c ^^^ d).toNat : Int) := by
  have hc := c.toNat_lt
  have hd := d.toNat_lt
  have key : (BitVec.ofInt 8 (c.toNat : Int) ^^^ BitVec.ofInt 8 (d.toNat : Int)).toNat = (c ^^^ d).toNat := by
    rw [BitVec.toNat_xor, BitVec.toNat_ofInt, BitVec.toNat_ofInt, UInt8.toNat_xor]
    congr 1 <;> omega
  show IntKind.u8.wrap ((BitVec.ofInt 8 (c.toNat : Int) ^^^ BitVec.ofInt 8 (d.toNat : Int)).toNat : Nat) = _
  rw [key, IntKind.wrap_u8]
  have := (c ^^^ d).toNat_lt
  omega
theorem u8_xor_pow (c : UInt8) (km : Nat) (h : km < 8) : bits .xor .u8 (c.toNat : Int) (IntKind.u8.wrap (2 ^ km)) = ((c ^^^ UInt8.ofNat (2 ^ km)).toNat : Int) := by
  have : 2 ^ km < 2 ^ 8 := Nat.pow_lt_pow_right (by decide) h
  have e : (UInt8.ofNat (2 ^ km)).toNat = 2 ^ km := by simp; omega
  have h2 := u8_xor c (UInt8.ofNat (2 ^ km))
  rw [e] at h2
  have h3 : IntKind.u8.wrap (2 ^ km) = ((2 ^ km : Nat) : Int) := by
    rw [IntKind.wrap_u8]
    have h4 : (2 : Int) ^ km = ((2 ^ km : Nat) : Int) := by simp
    rw [h4]
    omega
  rw [h3]
  exact h2
theorem u8_xor_pow2 (c : UInt8) (km : Nat) (h : km < 8) : bits .xor .u8 (c.toNat : Int) ((2 ^ km : Nat) : Int) = ((c ^^^ UInt8.ofNat (2 ^ km)).toNat : Int) := by
  have : 2 ^ km < 2 ^ 8 := Nat.pow_lt_pow_right (by decide) h
  have e : (UInt8.ofNat (2 ^ km)).toNat = 2 ^ km := by simp; omega
  have h2 := u8_xor c (UInt8.ofNat (2 ^ km))
  rw [e] at h2
  exact h2
theorem u8s_set {cur : List UInt8} {spare : List Value} {i : Nat} (c : UInt8) (h : i < cur.length) : (u8s cur ++ spare).toArray.setIfInBounds i (.int .u8 (c.toNat : Int)) = (u8s (cur.set i c) ++ spare).toArray := by
  rw [List.setIfInBounds_toArray, List.set_append_left _ _ (by simpa [u8s] using h)]
  simp [u8s, List.map_set]
theorem turnAt_set {cur : List UInt8} {k : Nat} {c : UInt8} (h : cur[k / 8]? = some c) : turnAt cur k = cur.set (k / 8) (c ^^^ UInt8.ofNat (2 ^ (k % 8))) := by
  obtain ⟨hlt, rfl⟩ := List.getElem?_eq_some_iff.1 h
  unfold turnAt
  apply List.ext_getElem?
  intro j
  rw [List.getElem?_modify, List.getElem?_set]
  by_cases hj : k / 8 = j
  · subst hj; simp [hlt]
  · simp [hj]
section
variable (W0 w : World) (F : HProp)
set_option maxHeartbeats 2000000 in
theorem CrcTurn (v : Value) (l : List UInt8) (at_ turn : Nat) (hat : at_ < 100000) (htn : turn < 4294967296) (hll : l.length ≤ 100000) (hr : ∀ w, S W0 w F → Reads w 1 v l.length (u8s l)) (hs : S W0 w F) :
    Calls Try.prog 50 #[v, .int .i64 (at_ : Int), .int .u32 (turn : Int)] w fun e w' => ∃ v', e = .returned v' ∧ S W0 w' (F * bytesV v' 5 (turnN l at_ turn 32)) := by
  have hcl := BytesClone W0 w F v l (hr w hs) (by omega) hs
  obtain ⟨ad, m, rfl⟩ : ∃ ad m, v = .slice ad l.length m := by
    rcases (hr w hs).2 with ⟨rfl, h⟩ | ⟨_, _, _, rfl, _⟩
    · rw [h]; exact ⟨_, _, rfl⟩
    · exact ⟨_, _, rfl⟩
  clear hr hs
  go_enter Try.func50, Try.ntmps50
  go_wp2_with fail
  refine hcl.mono ?_
  rintro e w1 ⟨v1, rfl, hs1⟩
  clear hcl
  obtain ⟨ad1, m1, rfl⟩ : ∃ ad1 m1, v1 = .slice ad1 l.length m1 := by
    rcases S.vec hs1 with ⟨rfl, h0, _⟩ | ⟨_, m1, _, rfl, _⟩
    · rw [h0]; exact ⟨_, _, rfl⟩
    · exact ⟨_, m1, rfl⟩
  go_wp2
  generalize hln : l.length = ln at *
  have HL := Lib.hid hln
  clear hln
  go_loopw [12] (fun vi wr => ∃ i : Nat, vi = .int .i64 i ∧ i ≤ 32 ∧ S W0 wr (F * bytesV (.slice ad1 ln m1) 5 (turnN l at_ turn i))) (fun vi _ => 32 - (intOf vi).toNat)
  case atStart => exact ⟨0, rfl, by omega, hs1⟩
  case round =>
    clear hs1
    obtain ⟨i, rfl, hi, hs1⟩ := hrel
    by_cases hlt : i < 32
    · have i0 : (0 : Int) ≤ i := by omega
      have i1 : (i : Int) < 32 := by omega
      have hdiv : (turn : Int) / 2 ^ i = ((turn / 2 ^ i : Nat) : Int) := by simp
      have hle : turn / 2 ^ i ≤ turn := Nat.div_le_self _ _
      have hstep : turnN l at_ turn (i + 1) = if turnB at_ turn i l.length = true then turnAt (turnN l at_ turn i) (at_ + i) else turnN l at_ turn i := rfl
      rw [HL.out] at hstep
      unfold turnB at hstep
      generalize turn / 2 ^ i = tb at *
      have hb : bits .and .u32 (tb : Int) 1 = ((tb % 2 : Nat) : Int) := by
        rw [u32_and1 _ (by omega) (by omega)]
        omega
      rcases (by omega : tb % 2 = 0 ∨ tb % 2 = 1) with h2 | h2
      · rw [h2] at hb hstep
        simp only [Nat.zero_ne_one, decide_false, Bool.false_and, Bool.false_eq_true, if_false] at hstep
        rw [← hstep] at hs1
        simp only [Int.ofNat_zero] at hb
        go_wp2
        go_roundw
        case rel => exact ⟨i + 1, by go_num, by omega, hs1⟩
        case measure => simp [intOf]; omega
      · rw [h2] at hb hstep
        simp only [decide_true, Bool.true_and, decide_eq_true_eq] at hstep
        by_cases h3 : at_ + i < 8 * ln
        · rw [if_pos h3] at hstep
          have n1 : ¬ (at_ : Int) < -(i : Int) := by omega
          have n2 : ¬ 8 * (ln : Int) - i ≤ at_ := by omega
          have n3 : (at_ : Int) < 8 * (ln : Int) - i := by omega
          go_wp2
          have hpos : 0 < ln := by omega
          have hlen : (turnN l at_ turn i).length = ln := by rw [turnN_length, HL.out]
          rcases S.vec hs1 with ⟨_, h0, _⟩ | ⟨gb, mc, spare, he, q1, q2, q3, q4, hs2⟩
          · omega
          simp only [Value.slice.injEq] at he
          obtain ⟨rfl, hz, rfl⟩ := he
          clear hz
          rw [hlen] at q1 q2 q3
          generalize turnN l at_ turn i = cur at *
          have hq : (at_ : Int) + i = ((at_ + i : Nat) : Int) := by omega
          rw [hq]
          clear hq
          generalize at_ + i = k at hstep h3 ⊢
          obtain ⟨kd, hkd⟩ : ∃ kd, kd = k / 8 := ⟨_, rfl⟩
          obtain ⟨km, hkm⟩ : ∃ km, km = k % 8 := ⟨_, rfl⟩
          obtain ⟨cc, hcc⟩ : ∃ cc, cur[kd]? = some cc := ⟨cur[kd]'(by omega), by simp⟩
          have hcell : wr.cell? ⟨gb, kd, none⟩ = some (.int .u8 (cc.toNat : Int)) := by
            rw [cell_at hs2.heap]
            have : kd < cur.length := by omega
            simp only [u8s, List.getElem?_toArray]
            rw [List.getElem?_append_left (by simpa using this)]
            simp [hcc]
          have k8 : (k : Int) / 8 = (kd : Int) := by omega
          have k8m : (k : Int) % 8 = (km : Int) := by omega
          have k0 : (0 : Int) ≤ k := by omega
          have kk0 : (0 : Int) ≤ kd := by omega
          have kk1 : (kd : Int) < ln := by omega
          have km0 : (0 : Int) ≤ km := by omega
          have km1 : (km : Int) < 8 := by omega
          have HK := Lib.hid (⟨hkd, hkm, hcc⟩ : _ ∧ _ ∧ _)
          clear hkd hkm hcc
          have hl9 : ln ≤ 9223372036854775807 := by omega
          have hw1 : IntKind.i64.wrap (kd : Int) = kd := IntWalk.i64_in _ (by omega)
          have hw2 : (k : Int).tmod 8 = km := by rw [Int.tmod_eq_emod_of_nonneg k0]; exact k8m
          have hw4 : IntKind.i64.wrap (km : Int) = km := IntWalk.i64_in _ (by omega)
          obtain ⟨nc, hnc⟩ : ∃ nc : UInt8, nc = cc ^^^ UInt8.ofNat (2 ^ km) := ⟨_, rfl⟩
          have hx := u8_xor_pow cc km (by omega)
          rw [← hnc] at hx
          have HN := Lib.hid hnc
          have HLC := Lib.hid hlen
          clear hnc hlen
          clear hw2
          have hw2 : (k : Int).tmod 8 = km := by rw [Int.tmod_eq_emod_of_nonneg k0]; exact k8m
          refine wp_region_S [(10, fun w => w.cell? ⟨gb, kd, none⟩ = some (.int .u8 (cc.toNat : Int)))] rfl ?_ ?_
          · simp only [List.mem_cons, List.not_mem_nil, or_false, forall_eq]
            exact hcell
          refine WS.takeP (i := 0) (v := ?_) rfl (by kernel_rfl) (by kernel_rfl) (by kernel_rfl) rfl (fun _ _ _ h => h) (by rfl) (fun w1 => ?_) ?_
          rotate_left 1
          · go_simp; try with_reducible rfl
          try simp only [Act.put, List.setIfInBounds_toArray, List.set_cons_zero, List.set_cons_succ]
          refine WS.takeP (i := 1) (v := ?_) rfl (by kernel_rfl) (by kernel_rfl) (by kernel_rfl) rfl (fun _ _ _ h => h) (by rfl) (fun w1 => ?_) ?_
          rotate_left 1
          · go_simp; try with_reducible rfl
          try simp only [Act.put, List.setIfInBounds_toArray, List.set_cons_zero, List.set_cons_succ]
          refine WS.takeP (i := 2) (v := ?_) rfl (by kernel_rfl) (by kernel_rfl) (by kernel_rfl) rfl (fun _ _ _ h => h) (by rfl) (fun w1 => ?_) ?_
          rotate_left 1
          · go_simp; try with_reducible rfl
          try simp only [Act.put, List.setIfInBounds_toArray, List.set_cons_zero, List.set_cons_succ]
          refine WS.takeP (i := 3) (v := ?_) rfl (by kernel_rfl) (by kernel_rfl) (by kernel_rfl) rfl (fun _ _ _ h => h) (by rfl) (fun w1 => ?_) ?_
          rotate_left 1
          · go_simp; try with_reducible rfl
          try simp only [Act.put, List.setIfInBounds_toArray, List.set_cons_zero, List.set_cons_succ]
          refine WS.takeR (i := 4) (v := ?_) (10) _ (by first | exact .head _ | exact .tail _ (.head _) | exact .tail _ (.tail _ (.head _))) rfl (by kernel_rfl) (by kernel_rfl) (by kernel_rfl) rfl (by kernel_rfl) rfl (fun _ _ _ h => h) (by rfl) (fun w1 hR => ?_) ?_
          rotate_left 1
          · (skip); go_simp; try with_reducible rfl
          try simp only [Act.put, List.setIfInBounds_toArray, List.set_cons_zero, List.set_cons_succ]
          refine WS.takeP (i := 5) (v := ?_) rfl (by kernel_rfl) (by kernel_rfl) (by kernel_rfl) rfl (fun _ _ _ h => h) (by rfl) (fun w1 => ?_) ?_
          rotate_left 1
          · go_simp; try with_reducible rfl
          try simp only [Act.put, List.setIfInBounds_toArray, List.set_cons_zero, List.set_cons_succ]
          refine WS.takeP (i := 6) (v := ?_) rfl (by kernel_rfl) (by kernel_rfl) (by kernel_rfl) rfl (fun _ _ _ h => h) (by rfl) (fun w1 => ?_) ?_
          rotate_left 1
          · go_simp; try with_reducible rfl
          try simp only [Act.put, List.setIfInBounds_toArray, List.set_cons_zero, List.set_cons_succ]
          refine WS.takeP (i := 7) (v := ?_) rfl (by kernel_rfl) (by kernel_rfl) (by kernel_rfl) rfl (fun _ _ _ h => h) (by rfl) (fun w1 => ?_) ?_
          rotate_left 1
          · go_simp; try with_reducible rfl
          try simp only [Act.put, List.setIfInBounds_toArray, List.set_cons_zero, List.set_cons_succ]
          refine WS.takeP (i := 8) (v := ?_) rfl (by kernel_rfl) (by kernel_rfl) (by kernel_rfl) rfl (fun _ _ _ h => h) (by rfl) (fun w1 => ?_) ?_
          rotate_left 1
          · go_simp; try with_reducible rfl
          try simp only [Act.put, List.setIfInBounds_toArray, List.set_cons_zero, List.set_cons_succ]
          refine WS.takeP (i := 9) (v := ?_) rfl (by kernel_rfl) (by kernel_rfl) (by kernel_rfl) rfl (fun _ _ _ h => h) (by rfl) (fun w1 => ?_) ?_
          rotate_left 1
          · go_simp; try with_reducible rfl
          try simp only [Act.put, List.setIfInBounds_toArray, List.set_cons_zero, List.set_cons_succ]
          have hf := free_at (i := kd) hs2.drew.heap
          have hcell2 : wr.drew.cell? ⟨gb, kd, none⟩ = some (.int .u8 (cc.toNat : Int)) := by simpa using hcell
          refine WS.one (i := 10) rfl (by kernel_rfl) (by rfl) (fun K hK => ?_)
          go_simp
          refine hK _ _ (fun q hq hq2 => ?_) ?_
          · simp only [List.mem_cons, List.not_mem_nil, or_false] at hq
            subst hq
            revert hq2
            simp
          refine WS.done (by kernel_rfl) ?_
          have hs3 := (hs2.set (i := kd) (v := .int .u8 (nc.toNat : Int))).drew
          obtain ⟨e1, e2, e3⟩ := HK.out
          have hl2 : (turnN l at_ turn (i + 1)).length = ln := by rw [turnN_length, HL.out]
          have hnew : cur.set kd nc = turnN l at_ turn (i + 1) := by
            rw [hstep, turnAt_set (by rw [← e1]; exact e3), HN.out, e1, e2]
          rw [u8s_set _ (by have := HLC.out; omega), hnew] at hs3
          have hs4 := S.to_vec (k := 1) (n := ln) (m := m1) (cs := u8s (turnN l at_ turn (i + 1))) hs3 (by rw [u8s_length, hl2]; simp) q2 q3 q4
          have hs5 : S W0 (wr.setCell { block := gb, off := kd } (Value.int IntKind.u8 ↑nc.toNat)).drew (F * bytesV (.slice (some ⟨gb, 0, none⟩) ln m1) 5 (turnN l at_ turn (i + 1))) := by
            unfold bytesV
            rw [hl2]
            exact hs4
          clear hs4 e1 e2 e3 hnew hs3 hx hcell hcell2 hf hs2 hs1 hstep
          generalize (wr.setCell { block := gb, off := kd } (Value.int IntKind.u8 ↑nc.toNat)).drew = w5 at hs5 ⊢
          go_wp2
          go_roundw
          case rel => exact ⟨i + 1, by go_num, by omega, hs5⟩
          case measure => simp [intOf]; omega
        · rw [if_neg h3] at hstep
          rw [← hstep] at hs1
          have n1 : ¬ (at_ : Int) < -(i : Int) := by omega
          have n2 : 8 * (ln : Int) - i ≤ at_ := by omega
          go_wp2
          go_roundw
          case rel => exact ⟨i + 1, by go_num, by omega, hs1⟩
          case measure => simp [intOf]; omega
    · have hi2 : i = 32 := by omega
      subst hi2
      go_wp2
      go_ret
      exact ⟨_, rfl, hs1⟩
end
end Go.Proofs.Ytnkjkkbjplneeaa
