/-
  Slices of bytes: Clone.
-/
import Derived.Test.YtnkjkkbjplneeaaProg
import Derived.Test.YtnkjkkbjplneeaaSLVec
import Derived.Test.YtnkjkkbjplneeaaSLNum
import Derived.WalkLawsBesides
namespace Go.Proofs.Ytnkjkkbjplneeaa
open Go.RowKit Go.SL
set_option linter.unusedSimpArgs false
set_option linter.unusedVariables false
theorem TU8 : SliceT Try.prog 44 5 1 1 (.int .u8 0) := sliceT_of Try.underlying44 (by kernel_rfl) rfl (by decide)
theorem u8s_one (l : List UInt8) : ∀ u ∈ u8s l, u.oneCell' = true := by
  intro u hu
  obtain ⟨_, _, rfl⟩ := List.mem_map.1 hu
  rfl
section
variable (W0 w : World) (F : HProp)
set_option maxHeartbeats 400000 in
theorem BytesClone (v : Value) (l : List UInt8) (hr : Reads w 1 v l.length (u8s l)) (hl : l.length ≤ 140737488355328) (hs : S W0 w F) :
    Calls Try.prog 36 #[v] w fun e w' => ∃ v', e = .returned v' ∧ S W0 w' (F * bytesV v' 5 l) := by
  rcases hr.2 with ⟨rfl, h0⟩ | ⟨q, o, m, rfl, h1, h2, h3⟩
  · go_enter Try.func36, Try.ntmps36
    have := List.eq_nil_of_length_eq_zero h0
    subst this
    have hnil := fun (w : World) (a : Option Addr) (n c : Nat) => Lib.run_eql_slice_nil (P := Try.prog) w 44 5 a n c 0 0 Try.underlying44
    go_wp2
    go_ret
    exact ⟨_, rfl, hs.to_vec_nil⟩
  · have hs1 : S W0 (w.alloc (.cells #[] 5)) (F * vecB 5 1 (.slice (some ⟨w.heap.size, 0, none⟩) 0 0) 0 []) :=
      S.to_vec (spare := []) (by simpa using hs.alloc _) (by simp) (by simp) (Nat.le_refl _) (by simp [maxLen])
    have hr1 := hr.mono (w' := w.alloc (.cells #[] 5)) fun _ _ h => cell_alloc h
    have hnil := fun (w : World) (a : Option Addr) (n c : Nat) => Lib.run_eql_slice_nil (P := Try.prog) w 44 5 a n c 0 0 Try.underlying44
    go_enter Try.func36, Try.ntmps36
    go_wp2_with (at_builtin; refine wp_append_S _ _ TU8 rfl rfl hs1 hr1 rfl rfl (u8s_one l) (by simp only [maxLen]; omega) (by omega) ?_)
    intro v' w' hs' _
    go_wp2
    go_ret
    exact ⟨_, rfl, hs'⟩
end
end Go.Proofs.Ytnkjkkbjplneeaa
