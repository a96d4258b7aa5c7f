/-
  Devices and powers that nobody made.
-/
import Derived.Test.YtnkjkkbjplneeaaDevNew
import Derived.Test.YtnkjkkbjplneeaaDev2
namespace Go.Proofs.Ytnkjkkbjplneeaa
open Go.RowKit Go.SL
set_option maxRecDepth 100000
set_option linter.unusedSimpArgs false
set_option linter.unusedVariables false
theorem RealOdd (w : World) (o : Nat) (h : w.cell? ⟨o, 0, none⟩ = some (.pointer none)) : Calls Try.prog 45 #[.pointer (some ⟨o, 0, none⟩)] w fun e w' => e = .returned (.bool false) ∧ w' = w := by
  go_enter Try.func45, Try.ntmps45
  go_wp2
  go_ret
  exact ⟨rfl, rfl⟩
theorem PowRealOdd (w : World) (o : Nat) (h : w.cell? ⟨o, 0, none⟩ = some (.bool false)) : Calls Try.prog 31 #[.pointer (some ⟨o, 0, none⟩)] w fun e w' => e = .returned (.bool false) ∧ w' = w := by
  go_enter Try.func31, Try.ntmps31
  go_wp2
  go_ret
  exact ⟨rfl, rfl⟩
section
variable (w : World) (v : Value) (hreal : Calls Try.prog 45 #[v] w fun e w' => e = .returned (.bool false) ∧ w' = w)
include hreal
set_option maxHeartbeats 400000 in
theorem NotReady : Calls Try.prog 32 #[v] w fun e w' => e = .returned (.int .i64 2) ∧ w' = w := by
  go_enter Try.func32, Try.ntmps32
  go_wp2_with (first | (go_at_call 45; refine (hreal).mono ?_; rintro e w' ⟨rfl, rfl⟩))
  go_ret
  exact ⟨rfl, rfl⟩
set_option maxHeartbeats 400000 in
theorem NotSize : Calls Try.prog 21 #[v] w fun e w' => e = .returned (.int .i64 0) ∧ w' = w := by
  go_enter Try.func21, Try.ntmps21
  go_wp2_with (first | (go_at_call 45; refine (hreal).mono ?_; rintro e w' ⟨rfl, rfl⟩))
  go_ret
  exact ⟨rfl, rfl⟩
set_option maxHeartbeats 400000 in
theorem NotFail (x y : Int) : Calls Try.prog 25 #[v, .int .u64 x, .int .u64 y] w fun e w' => e = .returned (.tuple #[]) ∧ w' = w := by
  go_enter Try.func25, Try.ntmps25
  go_wp2_with (first | (go_at_call 45; refine (hreal).mono ?_; rintro e w' ⟨rfl, rfl⟩))
  go_end0
  exact ⟨rfl, rfl⟩
set_option maxHeartbeats 400000 in
theorem NotRead (at_ : Int) : Calls Try.prog 27 #[v, .int .i64 at_] w fun e w' => e = .returned (.tuple #[.slice none 0 0, .int .i64 2]) ∧ w' = w := by
  have hready := NotReady w v hreal
  go_enter Try.func27, Try.ntmps27
  go_wp2_with (first | (go_at_call 32; refine (hready).mono ?_; rintro e w' ⟨rfl, rfl⟩))
  go_ret2
  exact ⟨rfl, rfl⟩
set_option maxHeartbeats 400000 in
theorem NotPeek (at_ : Int) : Calls Try.prog 20 #[v, .int .i64 at_] w fun e w' => e = .returned (.tuple #[.slice none 0 0, .bool false]) ∧ w' = w := by
  go_enter Try.func20, Try.ntmps20
  go_wp2_with (first | (go_at_call 45; refine (hreal).mono ?_; rintro e w' ⟨rfl, rfl⟩))
  go_ret2
  exact ⟨rfl, rfl⟩
set_option maxHeartbeats 400000 in
theorem NotWrite (at_ : Int) (ad : Option Addr) (n m : Nat) : Calls Try.prog 11 #[v, .int .i64 at_, .slice ad n m] w fun e w' => e = .returned (.int .i64 2) ∧ w' = w := by
  have hready := NotReady w v hreal
  go_enter Try.func11, Try.ntmps11
  go_wp2_with (first | (go_at_call 32; refine (hready).mono ?_; rintro e w' ⟨rfl, rfl⟩))
  go_ret
  exact ⟨rfl, rfl⟩
set_option maxHeartbeats 400000 in
theorem NotFlush : Calls Try.prog 9 #[v] w fun e w' => e = .returned (.int .i64 2) ∧ w' = w := by
  have hready := NotReady w v hreal
  go_enter Try.func9, Try.ntmps9
  go_wp2_with (first | (go_at_call 32; refine (hready).mono ?_; rintro e w' ⟨rfl, rfl⟩))
  go_ret
  exact ⟨rfl, rfl⟩
set_option maxHeartbeats 400000 in
theorem NotLoose : Calls Try.prog 22 #[v] w fun e w' => e = .returned (.slice none 0 0) ∧ w' = w := by
  go_enter Try.func22, Try.ntmps22
  go_wp2_with (first | (go_at_call 45; refine (hreal).mono ?_; rintro e w' ⟨rfl, rfl⟩))
  go_ret
  exact ⟨rfl, rfl⟩
set_option maxHeartbeats 400000 in
theorem NotRot (at_ bit turn : Int) : Calls Try.prog 28 #[v, .int .i64 at_, .int .i64 bit, .int .u32 turn] w fun e w' => e = .returned (.int .i64 2) ∧ w' = w := by
  go_enter Try.func28, Try.ntmps28
  go_wp2_with (first | (go_at_call 45; refine (hreal).mono ?_; rintro e w' ⟨rfl, rfl⟩))
  go_ret
  exact ⟨rfl, rfl⟩
set_option maxHeartbeats 400000 in
theorem NotRotten (at_ : Int) : Calls Try.prog 29 #[v, .int .i64 at_] w fun e w' => e = .returned (.bool false) ∧ w' = w := by
  go_enter Try.func29, Try.ntmps29
  go_wp2_with (first | (go_at_call 45; refine (hreal).mono ?_; rintro e w' ⟨rfl, rfl⟩))
  go_ret
  exact ⟨rfl, rfl⟩
set_option maxHeartbeats 400000 in
theorem NotCrash (p : Value) (ad : Option Addr) (n m : Nat) : Calls Try.prog 16 #[v, p, .slice ad n m] w fun e w' => e = .returned (.tuple #[.pointer none, .int .i64 2]) ∧ w' = w := by
  go_enter Try.func16, Try.ntmps16
  go_wp2_with (first | (go_at_call 45; refine (hreal).mono ?_; rintro e w' ⟨rfl, rfl⟩))
  go_ret2
  exact ⟨rfl, rfl⟩
end
section
variable (w : World) (v : Value)
set_option maxHeartbeats 400000 in
theorem NewBad (n : Int) (h : n < 0 ∨ 4096 < n) : Calls Try.prog 24 #[.int .i64 n, v] w fun e w' => e = .returned (.tuple #[.pointer none, .int .i64 1]) ∧ w' = w := by
  rcases h with h | h
  · go_enter Try.func24, Try.ntmps24
    go_wp2
    go_ret2
    exact ⟨rfl, rfl⟩
  · have h2 : ¬ n < 0 := by omega
    go_enter Try.func24, Try.ntmps24
    go_wp2
    go_ret2
    exact ⟨rfl, rfl⟩
set_option maxHeartbeats 400000 in
theorem NewNil (hreal : Calls Try.prog 31 #[v] w fun e w' => e = .returned (.bool false) ∧ w' = w) : Calls Try.prog 24 #[.int .i64 1, v] w fun e w' => e = .returned (.tuple #[.pointer none, .int .i64 2]) ∧ w' = w := by
  go_enter Try.func24, Try.ntmps24
  go_wp2_with (first | (go_at_call 31; refine (hreal).mono ?_; rintro e w' ⟨rfl, rfl⟩))
  go_ret2
  exact ⟨rfl, rfl⟩
end
end Go.Proofs.Ytnkjkkbjplneeaa
