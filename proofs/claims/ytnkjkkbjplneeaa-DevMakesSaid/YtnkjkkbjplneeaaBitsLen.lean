/-
  math/bits.Len by the kit's own contract.
-/
import Derived.Test.YtnkjkkbjplneeaaShelf
namespace Go.Proofs.Ytnkjkkbjplneeaa
open Go.Shelf Go.Lib
theorem BitsLen (n : Int) (W : World) (h0 : 0 ≤ n) (h : n ≤ 1000000) : Calls Try.prog 56 #[.int .u64 n] W fun e w' => (∃ l : Int, e = .returned (.int .i64 l)) ∧ w' = W :=
  (Try.bits_Len n W (by omega) (by omega)).mono fun _ _ ⟨he, hw⟩ => ⟨⟨_, he⟩, hw⟩
end Go.Proofs.Ytnkjkkbjplneeaa
