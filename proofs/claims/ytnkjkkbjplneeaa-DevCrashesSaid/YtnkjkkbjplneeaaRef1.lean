/-
  What small calls of the document's power and device do.
-/
import Derived.Test.YtnkjkkbjplneeaaRefA
import Derived.Test.YtnkjkkbjplneeaaDev3
namespace Go.Proofs.Ytnkjkkbjplneeaa
open Go.RowKit Go.SL
set_option maxRecDepth 100000
set_option linter.unusedSimpArgs false
set_option linter.unusedVariables false
section
variable (W0 w : World) (F : HProp) (q : Nat)
set_option maxHeartbeats 1000000 in
theorem RPowFuse (p : PowA) (n : Int) (hs : S W0 w (F * rpowO q p)) :
    Calls Try.prog 42 #[.pointer (some ⟨q, 0, none⟩), .int .i64 n] w fun e w' => e = .returned (.int .i64 (p.fuseE n)) ∧ S W0 w' (F * rpowO q (p.fuseS n)) := by
  obtain ⟨left, hl, h⟩ := rpowO.open hs
  have c0 : w.cell? ⟨q, 0, none⟩ = some (.bool p.off) := cell_at h.heap
  unfold PowA.fuseE PowA.fuseS
  by_cases h1 : p.off = true
  · rw [h1] at c0
    simp only [h1, if_true]
    clear h hl
    go_enter Try.func42, Try.ntmps42
    go_wp2
    go_ret
    exact ⟨rfl, hs⟩
  · have h1' : p.off = false := by simpa using h1
    rw [h1'] at c0
    rw [if_neg h1, if_neg h1]
    by_cases h2 : n < -1
    · rw [if_pos (.inl h2), if_pos (.inl h2)]
      clear h hl
      go_enter Try.func42, Try.ntmps42
      go_wp2
      go_ret
      exact ⟨rfl, hs⟩
    by_cases h3 : 1048576 < n
    · rw [if_pos (.inr h3), if_pos (.inr h3)]
      clear h hl
      go_enter Try.func42, Try.ntmps42
      go_wp2
      go_ret
      exact ⟨rfl, hs⟩
    rw [if_neg (by omega), if_neg (by omega)]
    have c1 : w.cell? ⟨q, 1, none⟩ = some (.bool (decide (0 ≤ p.fuse))) := cell_at h.heap
    have c2 : w.cell? ⟨q, 2, none⟩ = some (.int .i64 left) := cell_at h.heap
    have f1 : w.frozen? ⟨q, 1, none⟩ = false := free_at h.heap
    have f2 : w.frozen? ⟨q, 2, none⟩ = false := free_at h.heap
    have hk := (h.set (i := 1) (v := .bool (decide (0 ≤ n)))).set (i := 2) (v := .int .i64 n)
    have hk2 := rpowO.shut (p := { p with fuse := n }) (left := n) hk (fun _ => rfl)
    rw [h1'] at hk2
    clear h hl hk
    go_enter Try.func42, Try.ntmps42
    go_wp2
    go_ret
    exact ⟨rfl, hk2⟩
set_option maxHeartbeats 1000000 in
theorem RPowSpend (p : PowA) (hp : p.ok) (hs : S W0 w (F * rpowO q p)) :
    Calls Try.prog 53 #[.pointer (some ⟨q, 0, none⟩)] w fun e w' => e = .returned (.bool p.spendB) ∧ S W0 w' (F * rpowO q p.spendS) := by
  obtain ⟨left, hl, h⟩ := rpowO.open hs
  obtain ⟨o1, o2⟩ := hp
  have c0 : w.cell? ⟨q, 0, none⟩ = some (.bool p.off) := cell_at h.heap
  have c1 : w.cell? ⟨q, 1, none⟩ = some (.bool (decide (0 ≤ p.fuse))) := cell_at h.heap
  have c2 : w.cell? ⟨q, 2, none⟩ = some (.int .i64 left) := cell_at h.heap
  have c3 : w.cell? ⟨q, 3, none⟩ = some (.int .i64 p.done) := cell_at h.heap
  have ff : ∀ i, w.frozen? ⟨q, i, none⟩ = false := fun i => free_at h.heap
  have f0 := ff 0
  have f2 := ff 2
  have f3 := ff 3
  unfold PowA.spendB PowA.spendS
  by_cases h0 : p.fuse = 0
  · have e1 : decide (0 ≤ p.fuse) = true := by simp [h0]
    have e2 : left = 0 := by rw [hl (by omega), h0]
    subst e2
    have hk := h.set (i := 0) (v := .bool true)
    have hk2 := rpowO.shut (p := { p with off := true }) (left := 0) hk hl
    rw [e1] at c1
    have hb : (!(p.fuse == 0)) = false := by simp [h0]
    rw [if_pos h0, hb]
    clear h hl hk ff
    go_enter Try.func53, Try.ntmps53
    go_wp2
    go_ret
    exact ⟨rfl, hk2⟩
  · have hb : (!(p.fuse == 0)) = true := by simp [h0]
    rw [if_neg h0, hb]
    by_cases h4 : 0 < p.fuse
    · have e1 : decide (0 ≤ p.fuse) = true := by simp; omega
      have e2 : left = p.fuse := hl (by omega)
      subst e2
      rw [e1] at c1
      have hk := (h.set (i := 2) (v := .int .i64 (p.fuse - 1))).set (i := 3) (v := .int .i64 (wrap64 (p.done + 1)))
      have hd : decide (0 ≤ p.fuse - 1) = decide (0 ≤ p.fuse) := by rw [decide_eq_decide]; omega
      have hk2 := rpowO.shut (p := { p with fuse := p.fuse - 1, done := wrap64 (p.done + 1) }) (left := p.fuse - 1) (by simp only [hd]; exact hk) (fun _ => rfl)
      rw [if_pos h4]
      have h5 : (p.fuse == 0) = false := by simp [h0]
      have h6 : IntKind.i64.wrap (p.fuse - 1) = p.fuse - 1 := IntWalk.i64_in _ (by omega)
      clear h hl hk ff hd e1
      generalize p.fuse = f at *
      go_enter Try.func53, Try.ntmps53
      go_wp2
      go_ret
      exact ⟨rfl, hk2⟩
    · have e1 : decide (0 ≤ p.fuse) = false := by simp; omega
      rw [e1] at c1
      have hk := h.set (i := 3) (v := .int .i64 (wrap64 (p.done + 1)))
      have hk2 := rpowO.shut (p := { p with done := wrap64 (p.done + 1) }) (left := left) hk hl
      rw [if_neg h4]
      clear h hl hk ff
      go_enter Try.func53, Try.ntmps53
      go_wp2
      go_ret
      exact ⟨rfl, hk2⟩
end
section
variable (W0 w : World) (F : HProp) (e q : Nat) (D : DevA)
set_option maxHeartbeats 400000 in
theorem RefHas (at_ : Int) (hs : S W0 w (F * rdevO e q D)) :
    Calls Try.prog 52 #[.pointer (some ⟨e, 0, none⟩), .int .i64 at_] w fun e' w' => e' = .returned (.bool (D.has at_)) ∧ w' = w := by
  obtain ⟨g, hl, ho, hs⟩ := rdevO.open hs
  obtain ⟨c0, c1, c2, c3, fr⟩ := rdevG.cells hs
  unfold DevA.has
  generalize D.secs.length = n at *
  clear hs hl
  by_cases h1 : 0 ≤ at_
  · by_cases h2 : at_ < n
    · rw [decide_eq_true h1, decide_eq_true h2]
      go_enter Try.func52, Try.ntmps52
      go_wp2
      go_ret
      exact ⟨rfl, rfl⟩
    · rw [decide_eq_true h1, decide_eq_false h2]
      go_enter Try.func52, Try.ntmps52
      go_wp2
      go_ret
      exact ⟨rfl, rfl⟩
  · rw [decide_eq_false h1]
    go_enter Try.func52, Try.ntmps52
    go_wp2
    go_ret
    exact ⟨rfl, rfl⟩
set_option maxHeartbeats 1000000 in
theorem RefStands (i : Nat) (s : Sec) (hi : D.secs[i]? = some s) (hs : S W0 w (F * rdevO e q D)) :
    Calls Try.prog 49 #[.pointer (some ⟨e, 0, none⟩), .int .i64 (i : Int)] w fun e' w' => e' = .returned (strV s.stands) ∧ w' = w := by
  obtain ⟨g, hl, ho, hs⟩ := rdevO.open hs
  obtain ⟨c0, c1, c2, c3, fr⟩ := rdevG.cells hs
  obtain ⟨lv, hlv, d0, d1, d2, fr2⟩ := rdevG.at hs hl hi
  have hlt := (List.getElem?_eq_some_iff.1 hi).1
  have hst := strsO_get hl hi hlv
  have k := (rdevG.top hs).p2
  rw [hst] at k
  have k2 := k.assoc
  unfold strsO at k2
  have i0 : (0 : Int) ≤ i := by omega
  have i1 : (i : Int) < D.secs.length := by omega
  generalize hn : D.secs.length = n at *
  rcases S.vec k2 with ⟨rfl, h0, _⟩ | ⟨gb, m, spare, rfl, q1, q2, q3, q4, k3⟩
  · have hst2 : s.stands = s.fixed := by
      have := List.length_eq_zero_iff.1 h0
      simp [Sec.stands, this]
    rw [hst2]
    unfold strV at d0 ⊢
    clear k k2 hst hs c0 c2 c3 fr fr2 d2
    go_enter Try.func49, Try.ntmps49
    go_wp2
    go_ret
    exact ⟨rfl, rfl⟩
  · rcases Nat.eq_zero_or_pos s.loose.length with h0 | hpos
    · have hst2 : s.stands = s.fixed := by
        have := List.length_eq_zero_iff.1 h0
        simp [Sec.stands, this]
      rw [hst2]
      unfold strV at d0 ⊢
      rw [h0] at d1
      clear k k2 k3 hst hs c0 c2 c3 fr fr2 d2
      go_enter Try.func49, Try.ntmps49
      go_wp2
      go_ret
      exact ⟨rfl, rfl⟩
    · have hst1 : s.stands = s.loose[s.loose.length - 1]'(by omega) := by
        have : s.loose.getLast? = some (s.loose[s.loose.length - 1]'(by omega)) := by rw [List.getLast?_eq_getElem?]; simp [show s.loose.length - 1 < s.loose.length by omega]
        simp [Sec.stands, this]
      have cq : w.cell? ⟨gb, s.loose.length - 1, none⟩ = some (strV s.stands) := by
        rw [cell_at k3.heap, hst1, List.getElem?_toArray, List.getElem?_append_left (by simp; omega)]
        simp [strsV, show s.loose.length - 1 < s.loose.length by omega]
      have hle : s.loose.length ≤ maxLen := by omega
      simp only [maxLen] at hle
      clear k k2 k3 hst hs c0 c2 c3 fr fr2 d2 d0 hst1 q1 q2 q3 q4 hlv
      generalize s.stands = st at *
      generalize s.loose.length = sn at *
      unfold strV at cq ⊢
      have n0 : (0 : Int) ≤ (sn : Int) - 1 := by omega
      have n1 : (sn : Int) - 1 < sn := by omega
      have n2 : ((sn : Int) - 1).toNat = sn - 1 := by omega
      have n3 : IntKind.i64.wrap ((sn : Int) - 1) = (sn : Int) - 1 := IntWalk.i64_in _ (by omega)
      have n4 : (1 : Int) ≤ sn := by omega
      have n5 : (0 : Int) < sn := by omega
      go_enter Try.func49, Try.ntmps49
      go_wp2
      go_ret
      exact ⟨rfl, rfl⟩
end
end Go.Proofs.Ytnkjkkbjplneeaa
