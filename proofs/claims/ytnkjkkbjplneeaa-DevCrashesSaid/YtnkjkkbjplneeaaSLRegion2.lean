/-
  Two operations that may come up, and both change the world: both ways.
-/
import Derived.Test.YtnkjkkbjplneeaaSLRegion
namespace Go.SL
open Go.RowKit
set_option linter.unusedVariables false
section
variable {P : Program} {ops : Array Oper} {Q : Exit → Act → World → Prop} {m : List (Nat × (World → Prop))}
theorem WS.two {i j : Nat} {oi oj : Oper} {fuel : Nat} {listed : Array Bool} {a : Act} {w : World} (hi0 : ops.toList[i]? = some oi) (hj0 : ops.toList[j]? = some oj) (hr : Region.ready .any ops listed = [i, j])
    (hwi : Region.wanted oi (yielded ops a.tmps) = true) (hwj : Region.wanted oj (yielded ops a.tmps) = true)
    (h1 : ∀ K : Act → World → Prop, (∀ a' w', SM m (listed.setIfInBounds i true) w' → WS P ops Q m fuel (listed.setIfInBounds i true) a' w' → K a' w') → oi.wp P a w K Q)
    (h2 : ∀ K : Act → World → Prop, (∀ a' w', SM m (listed.setIfInBounds j true) w' → WS P ops Q m fuel (listed.setIfInBounds j true) a' w' → K a' w') → oj.wp P a w K Q) : WS P ops Q m (fuel + 1) listed a w := fun hc hS => by
  have hi : ops[i]? = some oi := by rw [Array.getElem?_toList] at hi0; exact hi0
  have hj : ops[j]? = some oj := by rw [Array.getElem?_toList] at hj0; exact hj0
  refine ⟨fun h0 => (by rw [hr] at h0; cases h0), fun k hk => ?_⟩
  have hk' := hk
  rw [hr] at hk
  simp only [List.mem_cons, List.not_mem_nil, or_false] at hk
  unfold wpOp
  rcases hk with rfl | rfl
  · simp only [hi, hwi, if_true]
    exact .inl (h1 _ fun a' w' hS' hW => ⟨hS', hW (hc.set hk') hS'⟩)
  · simp only [hj, hwj, if_true]
    exact .inl (h2 _ fun a' w' hS' hW => ⟨hS', hW (hc.set hk') hS'⟩)
end
end Go.SL
