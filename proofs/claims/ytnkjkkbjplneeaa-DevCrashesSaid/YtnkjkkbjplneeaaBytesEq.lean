/-
  slices.Equal of octets.
-/
import Derived.Test.YtnkjkkbjplneeaaBytes
import Derived.Test.YtnkjkkbjplneeaaDevSort
namespace Go.Proofs.Ytnkjkkbjplneeaa
open Go.RowKit Go.SL
set_option maxRecDepth 100000
set_option linter.unusedSimpArgs false
set_option linter.unusedVariables false
section
variable (W0 w : World) (F : HProp)
set_option maxHeartbeats 1000000 in
theorem BytesEqual (v1 v2 : Value) (l1 l2 : List UInt8) (h1 : Reads w 1 v1 l1.length (u8s l1)) (h2 : Reads w 1 v2 l2.length (u8s l2)) :
    Calls Try.prog 51 #[v1, v2] w fun e w' => e = .returned (.bool (decide (l1 = l2))) ∧ ∃ n, w' = w.drewN n := by
  have hb1 : l1.length ≤ maxLen := by
    rcases h1.2 with ⟨_, h⟩ | ⟨_, _, _, _, h, h', _⟩ <;> simp only [maxLen] at * <;> omega
  simp only [maxLen] at hb1
  obtain ⟨ad1, m1, rfl⟩ : ∃ ad m, v1 = .slice ad l1.length m := by
    rcases h1.2 with ⟨rfl, h⟩ | ⟨_, _, _, rfl, _⟩
    · rw [h]; exact ⟨_, _, rfl⟩
    · exact ⟨_, _, rfl⟩
  obtain ⟨ad2, m2, rfl⟩ : ∃ ad m, v2 = .slice ad l2.length m := by
    rcases h2.2 with ⟨rfl, h⟩ | ⟨_, _, _, rfl, _⟩
    · rw [h]; exact ⟨_, _, rfl⟩
    · exact ⟨_, _, rfl⟩
  by_cases hl : l1.length = l2.length
  rotate_left
  · have hne : l1 ≠ l2 := fun h => hl (by rw [h])
    have hl' : ((l1.length : Int) == l2.length) = false := by simp; omega
    rw [decide_eq_false hne]
    clear h1 h2
    go_enter Try.func51, Try.ntmps51
    go_wp2
    go_ret
    exact ⟨rfl, 0, rfl⟩
  generalize hn2 : l2.length = n at *
  rw [hl]
  have HN := Lib.hid (⟨hl, hn2⟩ : l1.length = n ∧ l2.length = n)
  rw [hl] at h1 hb1
  clear hl hn2
  go_enter Try.func51, Try.ntmps51
  go_wp2
  go_loopw [13] (fun vi wr => ∃ (i k : Nat), vi = .int .i64 i ∧ i ≤ n ∧ wr = w.drewN k ∧ ∀ j, j < i → l1[j]? = l2[j]?) (fun vi _ => n - (intOf vi).toNat)
  case atStart => exact ⟨0, 0, rfl, by omega, rfl, by intro j hj; omega⟩
  case round =>
    obtain ⟨i, k, rfl, hi, rfl, hall⟩ := hrel
    have HA := Lib.hid hall
    clear hall
    by_cases hlt : i < n
    · have hi1 : i < l1.length := by have := HN.out.1; omega
      have hi2 : i < l2.length := by have := HN.out.2; omega
      obtain ⟨b1, o1, c1, e1, _, _, q1⟩ : ∃ b o c, Value.slice ad1 n m1 = .slice (some ⟨b, o, none⟩) n c ∧ n ≤ c ∧ c ≤ maxLen ∧ ∀ j u, (u8s l1)[j]? = some u → w.cell? ⟨b, o + j, none⟩ = some u := by
        rcases h1.2 with ⟨_, h⟩ | h
        · omega
        · exact h
      obtain ⟨b2, o2, c2, e2, _, _, q2⟩ : ∃ b o c, Value.slice ad2 n m2 = .slice (some ⟨b, o, none⟩) n c ∧ n ≤ c ∧ c ≤ maxLen ∧ ∀ j u, (u8s l2)[j]? = some u → w.cell? ⟨b, o + j, none⟩ = some u := by
        rcases h2.2 with ⟨_, h⟩ | h
        · omega
        · exact h
      cases e1
      cases e2
      obtain ⟨x, hx1⟩ : ∃ x, l1[i]? = some x := ⟨l1[i], by simp [hi1]⟩
      obtain ⟨y, hx2⟩ : ∃ y, l2[i]? = some y := ⟨l2[i], by simp [hi2]⟩
      have d1 := q1 i (.int .u8 (x.toNat : Int)) (by simp [u8s, hx1])
      have d2 := q2 i (.int .u8 (y.toNat : Int)) (by simp [u8s, hx2])
      have i0 : (0 : Int) ≤ i := by omega
      have i1 : (i : Int) < n := by omega
      have HX := Lib.hid (⟨hx1, hx2⟩ : _ ∧ _)
      clear q1 q2 h1 h2 hx1 hx2 hi1 hi2
      by_cases hxy : x = y
      · subst hxy
        go_wp2
        go_quiet (fail)
        go_wp2
        go_roundw
        case rel =>
          refine ⟨i + 1, k + nq, by go_num, by omega, rfl, fun j hj => ?_⟩
          rcases Nat.lt_or_ge j i with h | h
          · exact HA.out j h
          · have : j = i := by omega
            subst this
            rw [HX.out.1, HX.out.2]
        case measure => simp [intOf]; omega
      · have hne : l1 ≠ l2 := by
          intro h
          have := HX.out
          rw [h] at this
          have e := this.1.symm.trans this.2
          simp only [Option.some.injEq] at e
          exact hxy e
        have HNE := Lib.hid hne
        have hx3 : ((x.toNat : Int) == (y.toNat : Int)) = false := by
          simp only [beq_eq_false_iff_ne, ne_eq]
          intro h
          exact hxy (UInt8.toNat_inj.1 (by omega))
        clear hne hxy
        go_wp2
        go_quiet (fail)
        go_wp2
        go_ret
        rw [decide_eq_false HNE.out]
        exact ⟨rfl, k + nq, by simp⟩
    · have hin : n = i := by omega
      subst hin
      have heq : l1 = l2 := by
        apply List.ext_getElem?
        intro j
        rcases Nat.lt_or_ge j n with h | h
        · exact HA.out j h
        · rw [List.getElem?_eq_none (by rw [HN.out.1]; exact h), List.getElem?_eq_none (by rw [HN.out.2]; exact h)]
      have HE := Lib.hid heq
      clear heq h1 h2
      go_wp2
      go_ret
      rw [decide_eq_true HE.out]
      exact ⟨rfl, k, rfl⟩
end
end Go.Proofs.Ytnkjkkbjplneeaa
