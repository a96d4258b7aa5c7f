/-
  Powers: what the calls of dev.Power and of the document's Power do.
-/
import Derived.Test.YtnkjkkbjplneeaaProg
import Derived.Test.YtnkjkkbjplneeaaSL
namespace Go.Proofs.Ytnkjkkbjplneeaa
open Go.RowKit Go.SL
set_option linter.unusedSimpArgs false
set_option linter.unusedVariables false
/-- A power: is it off, its fuse (below 0: none), how many writing calls were done. -/
structure PowA where
  off : Bool
  fuse : Int
  done : Int
namespace PowA
def fuseE (p : PowA) (n : Int) : Int := if p.off = true then 80 else if n < -1 ∨ 1048576 < n then 1 else 0
def fuseS (p : PowA) (n : Int) : PowA := if p.off = true then p else if n < -1 ∨ 1048576 < n then p else { p with fuse := n }
def spendB (p : PowA) : Bool := !(p.fuse == 0)
def spendS (p : PowA) : PowA := if p.fuse = 0 then { p with off := true } else if 0 < p.fuse then { p with fuse := p.fuse - 1, done := wrap64 (p.done + 1) } else { p with done := wrap64 (p.done + 1) }
def cut (p : PowA) : PowA := { p with off := true }
def ok (p : PowA) : Prop := -1 ≤ p.fuse ∧ p.fuse ≤ 1048576
end PowA
def powO (b : Nat) (p : PowA) : HProp := blk b (.cells #[.bool true, .bool p.off, .int .i64 p.fuse, .int .i64 p.done] 67 (0, 0))
section
variable {W0 w : World} {F : HProp}
theorem powO.cells {b : Nat} {p : PowA} (h : S W0 w (F * powO b p)) : w.cell? ⟨b, 0, none⟩ = some (.bool true) ∧ w.cell? ⟨b, 1, none⟩ = some (.bool p.off) ∧ w.cell? ⟨b, 2, none⟩ = some (.int .i64 p.fuse) ∧ w.cell? ⟨b, 3, none⟩ = some (.int .i64 p.done) := by
  have hh := S.heap h
  exact ⟨cell_at hh, cell_at hh, cell_at hh, cell_at hh⟩
theorem powO.free {b : Nat} {p : PowA} (h : S W0 w (F * powO b p)) (i : Nat) : w.frozen? ⟨b, i, none⟩ = false := free_at (S.heap h)
end
section
variable (W0 w : World) (F : HProp)
set_option maxHeartbeats 400000 in
theorem PowReal (b : Nat) (p : PowA) (hs : S W0 w (F * powO b p)) :
    Calls Try.prog 31 #[.pointer (some ⟨b, 0, none⟩)] w fun e w' => e = .returned (.bool true) ∧ w' = w := by
  obtain ⟨c0, c1, c2, c3⟩ := powO.cells hs
  go_enter Try.func31, Try.ntmps31
  go_wp2
  go_ret
  exact ⟨rfl, rfl⟩
set_option maxHeartbeats 400000 in
theorem PowRealNil :
    Calls Try.prog 31 #[.pointer none] w fun e w' => e = .returned (.bool false) ∧ w' = w := by
  go_enter Try.func31, Try.ntmps31
  go_wp2
  go_ret
  exact ⟨rfl, rfl⟩
set_option maxHeartbeats 400000 in
theorem PowFuse (b : Nat) (p : PowA) (n : Int) (hs : S W0 w (F * powO b p)) :
    Calls Try.prog 8 #[.pointer (some ⟨b, 0, none⟩), .int .i64 n] w fun e w' => e = .returned (.int .i64 (p.fuseE n)) ∧ S W0 w' (F * powO b (p.fuseS n)) := by
  obtain ⟨c0, c1, c2, c3⟩ := powO.cells hs
  have f2 := powO.free hs 2
  obtain ⟨off, fuse, done⟩ := p
  go_enter Try.func8, Try.ntmps8
  go_wp2_with (go_at_call 31; refine (PowReal W0 _ F b _ hs).mono ?_; rintro e w' ⟨rfl, rfl⟩)
  all_goals
    go_tidy
    go_ret
    refine ⟨by simp [PowA.fuseE, *] <;> omega, ?_⟩
    first | (refine S.to2 hs ?_; simp [PowA.fuseS, *]; done) | (refine S.to2 hs ?_; simp [PowA.fuseS, *]; omega) | (refine S.to2 (x := PowA.mk off n done) hs.set ?_; simp [PowA.fuseS, *] <;> omega)
set_option maxHeartbeats 400000 in
theorem PowDown (b : Nat) (p : PowA) (hs : S W0 w (F * powO b p)) :
    Calls Try.prog 10 #[.pointer (some ⟨b, 0, none⟩)] w fun e w' => e = .returned (.bool p.off) ∧ w' = w := by
  have hreal := PowReal W0 w F b p hs
  obtain ⟨c0, c1, c2, c3⟩ := powO.cells hs
  go_enter Try.func10, Try.ntmps10
  go_wp2_with (first | (go_at_call 31; refine (hreal).mono ?_; rintro e w' ⟨rfl, rfl⟩))
  go_ret
  exact ⟨rfl, rfl⟩
set_option maxHeartbeats 400000 in
theorem PowDone (b : Nat) (p : PowA) (hs : S W0 w (F * powO b p)) :
    Calls Try.prog 13 #[.pointer (some ⟨b, 0, none⟩)] w fun e w' => e = .returned (.int .i64 p.done) ∧ w' = w := by
  have hreal := PowReal W0 w F b p hs
  obtain ⟨c0, c1, c2, c3⟩ := powO.cells hs
  go_enter Try.func13, Try.ntmps13
  go_wp2_with (first | (go_at_call 31; refine (hreal).mono ?_; rintro e w' ⟨rfl, rfl⟩))
  go_ret
  exact ⟨rfl, rfl⟩
set_option maxHeartbeats 400000 in
theorem PowCut (b : Nat) (p : PowA) (hs : S W0 w (F * powO b p)) :
    Calls Try.prog 26 #[.pointer (some ⟨b, 0, none⟩)] w fun e w' => e = .returned (.tuple #[]) ∧ S W0 w' (F * powO b p.cut) := by
  have hreal := PowReal W0 w F b p hs
  obtain ⟨c0, c1, c2, c3⟩ := powO.cells hs
  have f1 := powO.free hs 1
  go_enter Try.func26, Try.ntmps26
  go_wp2_with (first | (go_at_call 31; refine (hreal).mono ?_; rintro e w' ⟨rfl, rfl⟩))
  go_end0
  exact ⟨rfl, hs.set⟩
def PowA.new : PowA := ⟨false, -1, 0⟩
set_option maxHeartbeats 400000 in
theorem PowNew (hs : S W0 w F) :
    Calls Try.prog 17 #[] w fun e w' => ∃ b, e = .returned (.pointer (some ⟨b, 0, none⟩)) ∧ S W0 w' (F * powO b .new) := by
  go_enter Try.func17, Try.ntmps17
  go_wp2
  go_ret
  exact ⟨_, rfl, hs.alloc _⟩
set_option maxHeartbeats 400000 in
theorem PowDownNil : Calls Try.prog 10 #[.pointer none] w fun e w' => e = .returned (.bool true) ∧ w' = w := by
  have hreal := PowRealNil w
  go_enter Try.func10, Try.ntmps10
  go_wp2_with (first | (go_at_call 31; refine (hreal).mono ?_; rintro e w' ⟨rfl, rfl⟩))
  go_ret
  exact ⟨rfl, rfl⟩
set_option maxHeartbeats 400000 in
theorem PowDoneNil : Calls Try.prog 13 #[.pointer none] w fun e w' => e = .returned (.int .i64 0) ∧ w' = w := by
  have hreal := PowRealNil w
  go_enter Try.func13, Try.ntmps13
  go_wp2_with (first | (go_at_call 31; refine (hreal).mono ?_; rintro e w' ⟨rfl, rfl⟩))
  go_ret
  exact ⟨rfl, rfl⟩
set_option maxHeartbeats 400000 in
theorem PowCutNil : Calls Try.prog 26 #[.pointer none] w fun e w' => e = .returned (.tuple #[]) ∧ w' = w := by
  have hreal := PowRealNil w
  go_enter Try.func26, Try.ntmps26
  go_wp2_with (first | (go_at_call 31; refine (hreal).mono ?_; rintro e w' ⟨rfl, rfl⟩))
  go_end0
  exact ⟨rfl, rfl⟩
set_option maxHeartbeats 400000 in
theorem PowFuseNil (n : Int) : Calls Try.prog 8 #[.pointer none, .int .i64 n] w fun e w' => e = .returned (.int .i64 2) ∧ w' = w := by
  have hreal := PowRealNil w
  go_enter Try.func8, Try.ntmps8
  go_wp2_with (first | (go_at_call 31; refine (hreal).mono ?_; rintro e w' ⟨rfl, rfl⟩))
  go_ret
  exact ⟨rfl, rfl⟩
end
end Go.Proofs.Ytnkjkkbjplneeaa
