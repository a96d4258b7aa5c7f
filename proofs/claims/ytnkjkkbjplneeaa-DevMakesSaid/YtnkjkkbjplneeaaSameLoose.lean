/-
  Two rows of loose sectors, compared.
-/
import Derived.Test.YtnkjkkbjplneeaaDevLoose
namespace Go.Proofs.Ytnkjkkbjplneeaa
open Go.RowKit Go.SL
set_option maxRecDepth 100000
set_option linter.unusedSimpArgs false
set_option linter.unusedVariables false
section
variable (W0 w : World) (F : HProp)
set_option maxHeartbeats 1000000 in
theorem SameLoose (v1 v2 : Value) (l1 l2 : List (Int × Int)) (h1 : Reads w 2 v1 l1.length (flatL l1)) (h2 : Reads w 2 v2 l2.length (flatL l2)) :
    Calls Try.prog 37 #[v1, v2] w fun e w' => e = .returned (.bool (decide (l1 = l2))) ∧ ∃ n, w' = w.drewN n := by
  have hb1 : l1.length ≤ maxLen := by
    rcases h1.2 with ⟨_, h⟩ | ⟨_, _, _, _, h, h', _⟩ <;> simp only [maxLen] at * <;> omega
  simp only [maxLen] at hb1
  obtain ⟨ad1, m1, rfl⟩ : ∃ ad m, v1 = .slice ad l1.length m := by
    rcases h1.2 with ⟨rfl, h⟩ | ⟨_, _, _, rfl, _⟩
    · rw [h]; exact ⟨_, _, rfl⟩
    · exact ⟨_, _, rfl⟩
  obtain ⟨ad2, m2, rfl⟩ : ∃ ad m, v2 = .slice ad l2.length m := by
    rcases h2.2 with ⟨rfl, h⟩ | ⟨_, _, _, rfl, _⟩
    · rw [h]; exact ⟨_, _, rfl⟩
    · exact ⟨_, _, rfl⟩
  by_cases hl : l1.length = l2.length
  rotate_left
  · have hne : l1 ≠ l2 := fun h => hl (by rw [h])
    have hl' : ((l1.length : Int) == l2.length) = false := by simp; omega
    rw [decide_eq_false hne]
    clear h1 h2
    go_enter Try.func37, Try.ntmps37
    go_wp2
    go_ret
    exact ⟨rfl, 0, rfl⟩
  generalize hn2 : l2.length = n at *
  rw [hl]
  have HN := Lib.hid (⟨hl, hn2⟩ : l1.length = n ∧ l2.length = n)
  rw [hl] at h1 hb1
  clear hl hn2
  go_enter Try.func37, Try.ntmps37
  go_wp2
  go_loopw [5] (fun vi wr => ∃ (i k : Nat), vi = .int .i64 i ∧ i ≤ n ∧ wr = w.drewN k ∧ ∀ j, j < i → l1[j]? = l2[j]?) (fun vi _ => n - (intOf vi).toNat)
  case atStart => exact ⟨0, 0, rfl, by omega, rfl, by intro j hj; omega⟩
  case round =>
    obtain ⟨i, k, rfl, hi, rfl, hall⟩ := hrel
    have HA := Lib.hid hall
    clear hall
    by_cases hlt : i < n
    · have hi1 : i < l1.length := by have := HN.out.1; omega
      have hi2 : i < l2.length := by have := HN.out.2; omega
      obtain ⟨b1, o1, c1, e1, _, _, q1⟩ : ∃ b o c, Value.slice ad1 n m1 = .slice (some ⟨b, o, none⟩) n c ∧ n ≤ c ∧ c ≤ maxLen ∧ ∀ j u, (flatL l1)[j]? = some u → w.cell? ⟨b, o + j, none⟩ = some u := by
        rcases h1.2 with ⟨_, h⟩ | h
        · omega
        · exact h
      obtain ⟨b2, o2, c2, e2, _, _, q2⟩ : ∃ b o c, Value.slice ad2 n m2 = .slice (some ⟨b, o, none⟩) n c ∧ n ≤ c ∧ c ≤ maxLen ∧ ∀ j u, (flatL l2)[j]? = some u → w.cell? ⟨b, o + j, none⟩ = some u := by
        rcases h2.2 with ⟨_, h⟩ | h
        · omega
        · exact h
      cases e1
      cases e2
      obtain ⟨g1, g2⟩ := flatL_get l1 i hi1
      obtain ⟨g3, g4⟩ := flatL_get l2 i hi2
      have d1 := q1 _ _ g1
      have d2 := q1 _ _ g2
      have d3 := q2 _ _ g3
      have d4 := q2 _ _ g4
      have hx1 : l1[i]? = some l1[i] := by simp [hi1]
      have hx2 : l2[i]? = some l2[i] := by simp [hi2]
      rw [← Nat.add_assoc] at d2 d4
      generalize l1[i] = x at *
      generalize l2[i] = y at *
      have i0 : (0 : Int) ≤ i := by omega
      have i1 : (i : Int) < n := by omega
      have HX := Lib.hid (⟨hx1, hx2⟩ : _ ∧ _)
      clear q1 q2 g1 g2 g3 g4 h1 h2 hx1 hx2 hi1 hi2
      obtain ⟨x1, x2⟩ := x
      obtain ⟨y1, y2⟩ := y
      simp only at d1 d2 d3 d4
      by_cases hxy : x1 = y1 ∧ x2 = y2
      · obtain ⟨rfl, rfl⟩ := hxy
        go_wp2
        go_quiet (fail)
        go_wp2
        go_roundw
        case rel =>
          refine ⟨i + 1, k + nq, by go_num, by omega, rfl, fun j hj => ?_⟩
          rcases Nat.lt_or_ge j i with h | h
          · exact HA.out j h
          · have : j = i := by omega
            subst this
            rw [HX.out.1, HX.out.2]
        case measure => simp [intOf]; omega
      · have hne : l1 ≠ l2 := by
          intro h
          have := HX.out
          rw [h] at this
          have e := this.1.symm.trans this.2
          simp only [Option.some.injEq, Prod.mk.injEq] at e
          exact hxy e
        have HNE := Lib.hid hne
        clear hne
        by_cases h : x1 = y1
        · subst h
          have hx2 : ¬ x2 = y2 := fun h => hxy ⟨rfl, h⟩
          have hx3 : (x2 == y2) = false := by simp [hx2]
          clear hxy
          go_wp2
          go_quiet (fail)
          go_wp2
          go_ret
          rw [decide_eq_false HNE.out]
          exact ⟨rfl, k + nq, by simp⟩
        · have hx3 : (x1 == y1) = false := by simp [h]
          clear hxy
          go_wp2
          go_quiet (fail)
          go_wp2
          go_ret
          rw [decide_eq_false HNE.out]
          exact ⟨rfl, k + nq, by simp⟩
    · have hin : n = i := by omega
      subst hin
      have heq : l1 = l2 := by
        apply List.ext_getElem?
        intro j
        rcases Nat.lt_or_ge j n with h | h
        · exact HA.out j h
        · rw [List.getElem?_eq_none (by rw [HN.out.1]; exact h), List.getElem?_eq_none (by rw [HN.out.2]; exact h)]
      have HE := Lib.hid heq
      clear heq h1 h2
      go_wp2
      go_ret
      rw [decide_eq_true HE.out]
      exact ⟨rfl, k, rfl⟩
end
end Go.Proofs.Ytnkjkkbjplneeaa
