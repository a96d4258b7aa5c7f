/-
  The acts of a law, as they lie in memory.
-/
import Derived.Test.YtnkjkkbjplneeaaAwake
namespace Go.Proofs.Ytnkjkkbjplneeaa
open Go.RowKit Go.SL
set_option maxRecDepth 100000
set_option linter.unusedSimpArgs false
set_option linter.unusedVariables false
structure ActA where
  kind : Int
  of_ : Int
  at_ : Int
  n : Int
  bit : Int
  turn : Int
  a : Int
  b : Int
  fill : Int
  size : Int
  fates : List Int
  fv : Value
namespace ActA
def row (x : ActA) : List Value := [.int .i64 x.kind, .int .i64 x.of_, .int .i64 x.at_, .int .i64 x.n, .int .i64 x.bit, .int .u32 x.turn, .int .u64 x.a, .int .u64 x.b, .int .u8 x.fill, .int .i64 x.size, x.fv]
def in64 (n : Int) : Prop := -9223372036854775808 ≤ n ∧ n ≤ 9223372036854775807
structure Ok (x : ActA) : Prop where
  kind : in64 x.kind
  of_ : in64 x.of_
  at_ : in64 x.at_
  n : in64 x.n
  bit : in64 x.bit
  turn : 0 ≤ x.turn ∧ x.turn ≤ 4294967295
  a : 0 ≤ x.a ∧ x.a ≤ 18446744073709551615
  b : 0 ≤ x.b ∧ x.b ≤ 18446744073709551615
  fill : 0 ≤ x.fill ∧ x.fill ≤ 255
  size : in64 x.size
  fates : ∀ k ∈ x.fates, in64 k
end ActA
def ActsAt (W : World) (v : Value) (acts : List ActA) : Prop := ∃ ad cap, v = .slice ad acts.length cap ∧ acts.length ≤ maxLen ∧
  (acts ≠ [] → ∃ bb oo, ad = some ⟨bb, oo, none⟩ ∧ bb < W.heap.size ∧ ∀ (i : Nat) (x : ActA), acts[i]? = some x → (∀ j u, x.row[j]? = some u → W.cell? ⟨bb, oo + (i * 11 + j), none⟩ = some u) ∧ x.Ok ∧
    ∀ w, Below W.heap.size W w → ReadsW w 1 x.fv x.fates.length (i64s x.fates))
theorem i64_and1 (n : Int) : bits .and .i64 n 1 = n % 2 := by
  have h1 : (BitVec.ofInt 64 1).toNat = 2 ^ 1 - 1 := by decide
  have key : (BitVec.ofInt 64 n &&& BitVec.ofInt 64 1).toNat = (n % ((2 ^ 64 : Nat) : Int)).toNat % 2 ^ 1 := by
    rw [BitVec.toNat_and, BitVec.toNat_ofInt, h1, Nat.and_two_pow_sub_one_eq_mod]
  show IntKind.i64.wrap ((BitVec.ofInt 64 n &&& BitVec.ofInt 64 1).toNat : Nat) = n % 2
  rw [key, IntKind.wrap_i64]
  omega
theorem i64_and3 (n : Int) : bits .and .i64 n 3 = n % 4 := by
  have h1 : (BitVec.ofInt 64 3).toNat = 2 ^ 2 - 1 := by decide
  have key : (BitVec.ofInt 64 n &&& BitVec.ofInt 64 3).toNat = (n % ((2 ^ 64 : Nat) : Int)).toNat % 2 ^ 2 := by
    rw [BitVec.toNat_and, BitVec.toNat_ofInt, h1, Nat.and_two_pow_sub_one_eq_mod]
  show IntKind.i64.wrap ((BitVec.ofInt 64 n &&& BitVec.ofInt 64 3).toNat : Nat) = n % 4
  rw [key, IntKind.wrap_i64]
  omega
end Go.Proofs.Ytnkjkkbjplneeaa
