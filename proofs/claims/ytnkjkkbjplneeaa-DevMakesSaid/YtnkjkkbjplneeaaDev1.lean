/-
  What the small calls of dev.Dev do.
-/
import Derived.Test.YtnkjkkbjplneeaaDevA
import Derived.Test.YtnkjkkbjplneeaaSLNum
namespace Go.Proofs.Ytnkjkkbjplneeaa
open Go.RowKit Go.SL
set_option linter.unusedSimpArgs false
set_option linter.unusedVariables false
section
variable (W0 w : World) (F : HProp) (b pw : Nat) (D : DevA)
set_option maxHeartbeats 400000 in
theorem DevReal (hs : S W0 w (F * devO b pw D)) :
    Calls Try.prog 45 #[.pointer (some ⟨b, 0, none⟩)] w fun e w' => e = .returned (.bool true) ∧ w' = w := by
  obtain ⟨g, ho, hs⟩ := devO.open hs
  obtain ⟨c0, c1, c2, c3, c4, c5, fr⟩ := devG.cells hs
  go_enter Try.func45, Try.ntmps45
  go_wp2
  go_ret
  exact ⟨rfl, rfl⟩
set_option maxHeartbeats 400000 in
theorem DevRealNil :
    Calls Try.prog 45 #[.pointer none] w fun e w' => e = .returned (.bool false) ∧ w' = w := by
  go_enter Try.func45, Try.ntmps45
  go_wp2
  go_ret
  exact ⟨rfl, rfl⟩
set_option maxHeartbeats 400000 in
theorem DevSize (hs : S W0 w (F * devO b pw D)) :
    Calls Try.prog 21 #[.pointer (some ⟨b, 0, none⟩)] w fun e w' => e = .returned (.int .i64 D.secs.length) ∧ w' = w := by
  have hreal := DevReal W0 w F b pw D hs
  obtain ⟨g, ho, hs⟩ := devO.open hs
  obtain ⟨c0, c1, c2, c3, c4, c5, fr⟩ := devG.cells hs
  go_enter Try.func21, Try.ntmps21
  go_wp2_with (go_at_call 45; refine hreal.mono ?_; rintro e w' ⟨rfl, rfl⟩)
  go_ret
  exact ⟨rfl, rfl⟩
set_option maxHeartbeats 400000 in
theorem DevHas (at_ : Int) (hs : S W0 w (F * devO b pw D)) :
    Calls Try.prog 34 #[.pointer (some ⟨b, 0, none⟩), .int .i64 at_] w fun e w' => e = .returned (.bool (D.has at_)) ∧ w' = w := by
  obtain ⟨g, ho, hs⟩ := devO.open hs
  obtain ⟨c0, c1, c2, c3, c4, c5, fr⟩ := devG.cells hs
  go_enter Try.func34, Try.ntmps34
  go_wp2
  all_goals
    go_tidy
    go_ret
    refine ⟨?_, rfl⟩
    simp [DevA.has, *] <;> omega
def readyE (p : PowA) : Int := if p.off = true then 80 else 0
set_option maxHeartbeats 400000 in
theorem DevReady (p : PowA) (hs : S W0 w (F * powO pw p * devO b pw D)) :
    Calls Try.prog 32 #[.pointer (some ⟨b, 0, none⟩)] w fun e w' => e = .returned (.int .i64 (readyE p)) ∧ w' = w := by
  have hreal := DevReal W0 w _ b pw D hs
  obtain ⟨c0', c1', c2', c3'⟩ := powO.cells (F := F * devO b pw D) hs.perm
  obtain ⟨g, ho, hs⟩ := devO.open hs
  obtain ⟨c0, c1, c2, c3, c4, c5, fr⟩ := devG.cells hs
  go_enter Try.func32, Try.ntmps32
  go_wp2_with (go_at_call 45; refine hreal.mono ?_; rintro e w' ⟨rfl, rfl⟩)
  all_goals
    go_tidy
    go_ret
    refine ⟨?_, rfl⟩
    simp [readyE, *]
set_option maxHeartbeats 400000 in
theorem PatNext (i : Nat) (x : Nat) (hc : w.cell? ⟨b, i, none⟩ = some (.int .u64 (x : Int))) (hf : w.frozen? ⟨b, i, none⟩ = false) (hx : x < 18446744073709551616) :
    Calls Try.prog 35 #[.pointer (some ⟨b, i, none⟩)] w fun e w' => e = .returned (.bool (x % 2 == 1)) ∧ w' = w.setCell ⟨b, i, none⟩ (.int .u64 ((x / 2 : Nat) : Int)) := by
  go_enter Try.func35, Try.ntmps35
  go_wp2
  all_goals
    go_tidy
    go_ret
    refine ⟨by simp [u64_and1 x hx]; rw [Bool.eq_iff_iff]; simp; omega, by simp⟩
end
theorem zero_rows (w : World) : (zeroValue 68).run Try.prog w = .ok (.slice none 0 0) w := by kernel_rfl
section
variable {W0 w : World} {F : HProp} {b pw : Nat} {D : DevA} {g : DevG}
theorem run_lookup_dev {es : Array MapEntry} {clock : Nat} {kv : List (Int × Value)} {lm : Nat} (h : w.heap[lm]? = some (.map es clock)) (hmo : MapOk .i64 es clock kv) (i : Int) {o : Option Value} (hk : kv.lookup i = o) :
    (Instr.lookup 69 (.map (some lm)) (.int .i64 i) false).run Try.prog w = .ok (o.getD (.slice none 0 0)) w := by
  rw [← hk]
  exact run_lookup_int (P := Try.prog) Try.underlying69 Try.underlying3 (zero_rows w) h hmo i
end
section
variable (W0 w : World) (F : HProp) (b pw : Nat) (D : DevA)
set_option maxHeartbeats 400000 in
theorem DevStands (i : Nat) (s : Sec) (hi : D.secs[i]? = some s) (hs : S W0 w (F * devO b pw D)) :
    Calls Try.prog 46 #[.pointer (some ⟨b, 0, none⟩), .int .i64 (i : Int)] w fun e w' => ∃ v, e = .returned v ∧ w' = w ∧ Reads w 1 v s.stands.length (u8s s.stands) := by
  obtain ⟨g, ho, hs⟩ := devO.open hs
  obtain ⟨c0, c1, c2, c3, c4, c5, fr⟩ := devG.cells hs
  obtain ⟨hlt, rfl⟩ := List.getElem?_eq_some_iff.1 hi
  obtain ⟨fv, lv, e1, e2, h1⟩ := devG.sec hs ho hi
  have hkv := ho.2.2.1 (i : Int)
  simp [e2] at hkv
  obtain ⟨es, clock, hmo, h2⟩ := S.map h1.p4
  have hl := run_lookup_dev h2.heap hmo (i : Int) hkv
  have cf : w.cell? ⟨g.fb, i, none⟩ = some fv := by rw [cell_at h1.p3.heap]; simpa using e1
  have hib0 : (0 : Int) ≤ i := by omega
  have hib1 : (i : Int) < D.secs.length := by omega
  generalize D.secs[i] = s at *
  unfold secO at h1
  cases lv with
  | none =>
    obtain ⟨hnil, h3⟩ := S.of_pr h1.assoc
    have hr := S.reads h3
    have hst : s.stands = s.fixed := by simp [Sec.stands, hnil]
    simp only [Option.getD_none] at hl
    rw [hst]
    clear hmo ho hkv e1 e2 hi fr hst hnil
    go_enter Try.func46, Try.ntmps46
    go_wp2
    go_ret
    exact ⟨_, rfl, rfl, hr⟩
  | some v =>
    obtain ⟨hne, h3⟩ := S.of_pr h1.assoc.assoc
    have hpos : 0 < s.loose.length := by cases hx : s.loose with | nil => exact absurd hx hne | cons a l => simp
    obtain ⟨q, m, u, rfl, q3, q4, cq, hr⟩ := rowsO.at h3 (j := s.loose.length - 1) (l := s.loose[s.loose.length - 1]'(by omega)) (by simp [show s.loose.length - 1 < s.loose.length by omega])
    have hst : s.stands = s.loose[s.loose.length - 1]'(by omega) := by
      have : s.loose.getLast? = some (s.loose[s.loose.length - 1]'(by omega)) := by rw [List.getLast?_eq_getElem?]; simp [show s.loose.length - 1 < s.loose.length by omega]
      simp [Sec.stands, this]
    rw [← hst] at hr
    simp only [Option.getD_some] at hl
    clear hst hmo ho hkv e1 e2 hi fr h1 h2 h3 hne
    generalize s.stands = l at *
    generalize s.loose.length = n at *
    have hn1 : (0 : Int) ≤ (n : Int) - 1 := by omega
    have hn2 : (n : Int) - 1 < n := by omega
    have hn3 : ((n : Int) - 1).toNat = n - 1 := by omega
    have hn4 : (n : Int) ≤ 9223372036854775807 := by simp only [maxLen] at q4; omega
    go_enter Try.func46, Try.ntmps46
    go_wp2
    go_ret
    exact ⟨_, rfl, rfl, hr⟩
end
end Go.Proofs.Ytnkjkkbjplneeaa
