/-
  slices.SortFunc on at most twelve loose sectors.
-/
import Derived.Test.YtnkjkkbjplneeaaDevSort
import Derived.Test.YtnkjkkbjplneeaaBitsLen
namespace Go.Proofs.Ytnkjkkbjplneeaa
open Go.RowKit Go.SL
set_option maxRecDepth 100000
set_option linter.unusedSimpArgs false
set_option linter.unusedVariables false
section
variable (W0 w : World) (F : HProp)
theorem LoosePdq (g m : Nat) (lim : Int) (spare : List Value) (d : Array (Int × Int)) (hd : d.size ≤ 12) (hsm : LoSmall d) (hs : S W0 w (F * blk g (loObj d spare))) :
    Calls Try.prog 55 #[.slice (some ⟨g, 0, none⟩) d.size m, .int .i64 0, .int .i64 d.size, .int .i64 lim, .func (.func 48) #[] #[]] w fun e w' =>
      e = .returned (.tuple #[]) ∧ S W0 w' (F * blk g (loObj (Sort.insertionSort loLt d 0 d.size) spare)) := by
  have hi := LooseInsertion W0 w F g m spare d (by omega) hsm hs
  have hd2 : (d.size : Int) ≤ 12 := by omega
  have hz : IntKind.i64.wrap ((d.size : Int) - 0) = d.size := IntWalk.i64_in _ (by omega)
  clear hs hsm
  go_enter Try.func55, Try.ntmps55
  go_wp2
  refine wp_loop_rounds 1 ?_
  rw [rounds_succ]
  go_wp2_with (first | (go_at_call 57; refine (hi).mono ?_; rintro e w' ⟨rfl, hs⟩))
  (try simp only [Exit.inBlock, Exit.then])
  refine bodyPost_ret (results_none rfl _ _ _) rfl ?_
  exact ⟨rfl, hs⟩
theorem LooseSort (g m : Nat) (spare : List Value) (d : Array (Int × Int)) (hd : d.size ≤ 12) (hsm : LoSmall d) (hs : S W0 w (F * blk g (loObj d spare))) :
    Calls Try.prog 47 #[.slice (some ⟨g, 0, none⟩) d.size m, .func (.func 48) #[] #[]] w fun e w' =>
      e = .returned (.tuple #[]) ∧ S W0 w' (F * blk g (loObj (Sort.insertionSort loLt d 0 d.size) spare)) := by
  have hl := BitsLen d.size w (by omega) (by omega)
  have hi := fun lim => LoosePdq W0 w F g m lim spare d hd hsm hs
  have hd2 : (d.size : Int) ≤ 12 := by omega
  have hz : IntKind.u64.wrap (d.size : Int) = d.size := IntWalk.u64_in _ (by omega)
  clear hs hsm
  go_enter Try.func47, Try.ntmps47
  go_wp2_with (first | (go_at_call 56; refine (hl).mono ?_; rintro e w' ⟨⟨l, rfl⟩, rfl⟩) | (go_at_call 55; refine (hi _).mono ?_; rintro e w' ⟨rfl, hs⟩))
  go_end0
  exact ⟨rfl, hs⟩
/-- The empty row. -/
theorem LooseSortNil (hs : S W0 w F) :
    Calls Try.prog 47 #[.slice none 0 0, .func (.func 48) #[] #[]] w fun e w' =>
      e = .returned (.tuple #[]) ∧ S W0 w' F := by
  have hl := BitsLen 0 w (by omega) (by omega)
  have hi : Calls Try.prog 57 #[.slice none 0 0, .int .i64 0, .int .i64 0, .func (.func 48) #[] #[]] w fun e w' => e = .returned (.tuple #[]) ∧ S W0 w' F := by
    go_enter Try.func57, Try.ntmps57
    go_wp2
    refine wp_loop_rounds 1 ?_
    rw [rounds_succ]
    go_wp2
    go_end0
    exact ⟨rfl, hs⟩
  have hp : ∀ lim : Int, Calls Try.prog 55 #[.slice none 0 0, .int .i64 0, .int .i64 0, .int .i64 lim, .func (.func 48) #[] #[]] w fun e w' => e = .returned (.tuple #[]) ∧ S W0 w' F := by
    intro lim
    go_enter Try.func55, Try.ntmps55
    go_wp2
    refine wp_loop_rounds 1 ?_
    rw [rounds_succ]
    go_wp2_with (first | (go_at_call 57; refine (hi).mono ?_; rintro e w' ⟨rfl, hs⟩))
    (try simp only [Exit.inBlock, Exit.then])
    refine bodyPost_ret (results_none rfl _ _ _) rfl ?_
    exact ⟨rfl, hs⟩
  go_enter Try.func47, Try.ntmps47
  go_wp2_with (first | (go_at_call 56; refine (hl).mono ?_; rintro e w' ⟨⟨l, rfl⟩, rfl⟩) | (go_at_call 55; refine (hp _).mono ?_; rintro e w' ⟨rfl, hs⟩))
  go_end0
  exact ⟨rfl, hs⟩
end
end Go.Proofs.Ytnkjkkbjplneeaa
