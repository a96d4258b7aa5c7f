/-
  A law's acts, opened: what lies in memory where the call begins.
-/
import Derived.ProofKit
import Derived.Deep.Slices
import Derived.Test.YtnkjkkbjplneeaaChecked
import Derived.Test.YtnkjkkbjplneeaaActs
namespace Go.Proofs.Ytnkjkkbjplneeaa
open Go.RowKit Go.SL
set_option maxRecDepth 100000
set_option linter.unusedSimpArgs false
set_option linter.unusedVariables false
open Go.ChangeShapes Go.WideShapes Go.ChangeAt Go.Deep
section
variable {H : Type} {enc : TypeId × Value → H} {W : World}
theorem cell_block {w : World} {p : Addr} {u : Value} (h : w.cell? p = some u) : p.block < w.heap.size := by
  unfold World.cell? at h
  split at h
  · rename_i h2
    exact (Array.getElem?_eq_some_iff.1 h2).1
  · cases h
theorem wf_i64 {n : Int} (h : (Lit.int .i64 n).wf = true) : ActA.in64 n := by
  simp [Lit.wf, IntKind.min, IntKind.max, IntKind.signed, IntKind.bits] at h
  exact ⟨by omega, by omega⟩
theorem ints_open {fuel : Nat} {cs : List Value} {x : DataW H × List MemPlace} {held : Bool} (h : DataW.trod enc Try.prog W 0 (fun _ => true) held fuel 38 cs = some x) :
    ∃ (v : Value) (zs : List Int), cs = [v] ∧ (∀ z ∈ zs, ActA.in64 z) ∧ ∀ w, Below W.heap.size W w → ReadsW w 1 v zs.length (i64s zs) := by
  rcases open_slice Try.underlying38 h with ⟨rfl, _⟩ | ⟨a, len, cap, m, n, D, Pl, rfl, hb, hl, hm, hmm, hx, hi⟩
  · exact ⟨_, [], rfl, by simp, fun w _ => ⟨rfl, by simp [maxLen], none, 0, rfl, fun h => by simp at h⟩⟩
  · have c1 : Try.prog.cellsOf 3 = 1 := by kernel_rfl
    have hm' : len ≤ m := by rw [hmm]; simpa using hl
    have hel : ∀ i, i < len → ∃ z, W.cell? (a.add i) = some (.int .i64 z) ∧ ActA.in64 z := by
      intro i hlt
      obtain ⟨cs', hc, ht⟩ := hi i (by omega)
      rw [c1, Nat.mul_one] at hc
      obtain ⟨_, hcl, hat⟩ := World.cells?_some hc
      obtain ⟨z, rfl, _, hw⟩ := DataW.trod_int Try.underlying3 ht
      refine ⟨z, ?_, wf_i64 hw⟩
      have := hat 0 (by omega)
      simpa [Addr.add] using this
    have hz : ∃ zs : List Int, zs.length = len ∧ ∀ (i : Nat) (z : Int), zs[i]? = some z → W.cell? (a.add i) = some (.int .i64 z) ∧ ActA.in64 z := by
      refine ⟨(List.range len).map fun i => if h : i < len then (hel i h).choose else 0, by simp, ?_⟩
      intro i z hz
      rw [List.getElem?_map] at hz
      obtain ⟨j, hj, rfl⟩ := Option.map_eq_some_iff.1 hz
      have hj' := List.getElem?_eq_some_iff.1 hj
      obtain ⟨h1, h2⟩ := hj'
      simp at h1 h2
      subst h2
      rw [dif_pos h1]
      exact (hel i h1).choose_spec
    obtain ⟨zs, hzl, hzc⟩ := hz
    refine ⟨_, zs, rfl, fun z hzm => ?_, fun w hbl => ⟨by simp [i64s], by simp only [maxLen] at *; omega, some a, cap, by rw [hzl], fun hpos => ?_⟩⟩
    · obtain ⟨i, hi', rfl⟩ := List.mem_iff_getElem.1 hzm
      exact (hzc i zs[i] (by simp [hi'])).2
    · have h0 := (hzc 0 (zs[0]'hpos) (by simp [hpos])).1
      have hadd : a.add 0 = a := rfl
      rw [hadd] at h0
      have hs := World.cell?_spot h0
      have hbk := cell_block h0
      obtain ⟨ab, ao, sp⟩ := a
      simp only at hs hbk
      subst hs
      refine ⟨ab, ao, rfl, fun j u hj => ?_⟩
      simp only [i64s, List.getElem?_map] at hj
      obtain ⟨z, hz, rfl⟩ := Option.map_eq_some_iff.1 hj
      have := (hzc j z hz).1
      rw [add_mk] at this
      rw [hbl.cell hbk]
      exact this
theorem act_open {n : Nat} {cs : List Value} {y : DataW H × List MemPlace} {held : Bool} (h : DataW.trod enc Try.prog W 0 (fun _ => true) held n 40 cs = some y) :
    ∃ x : ActA, cs = x.row ∧ x.Ok ∧ ∀ w, Below W.heap.size W w → ReadsW w 1 x.fv x.fates.length (i64s x.fates) := by
  obtain ⟨xs, n', rfl, rfl, hcl, hxl, hf⟩ := DataW.trod_struct Try.underlying40 h
  have k11 : Try.prog.cellsOf 40 = 11 := by kernel_rfl
  have k3 : Try.prog.cellsOf 3 = 1 := by kernel_rfl
  have k36 : Try.prog.cellsOf 36 = 1 := by kernel_rfl
  have k37 : Try.prog.cellsOf 37 = 1 := by kernel_rfl
  have k5 : Try.prog.cellsOf 5 = 1 := by kernel_rfl
  have k38 : Try.prog.cellsOf 38 = 1 := by kernel_rfl
  rw [k11] at hcl
  match cs, hcl with
  | [c0, c1, c2, c3, c4, c5, c6, c7, c8, c9, c10], _ =>
    have hx : ∀ i, i < 11 → ∃ z, xs[i]? = some z := fun i hi => ⟨xs[i]'(by rw [hxl]; exact hi), by rw [List.getElem?_eq_getElem]⟩
    have g : ∀ (i : Nat) (t : TypeId) (c : Value), i < 11 → DataW.trod enc Try.prog W 0 (fun _ => true) held n' t [c] = xs[i]? → ∃ z, DataW.trod enc Try.prog W 0 (fun _ => true) held n' t [c] = some z := fun i t c hi h => by
      obtain ⟨z, hz⟩ := hx i hi
      exact ⟨z, h.trans hz⟩
    have f0 : DataW.trod enc Try.prog W 0 (fun _ => true) held n' 3 [c0] = xs[0]? := by
      have h : DataW.trod enc Try.prog W 0 (fun _ => true) held n' 3 (([c0, c1, c2, c3, c4, c5, c6, c7, c8, c9, c10].drop 0).take (Try.prog.cellsOf 3)) = xs[0]? := hf 0 _ rfl
      rw [k3] at h
      exact h
    have f1 : DataW.trod enc Try.prog W 0 (fun _ => true) held n' 3 [c1] = xs[1]? := by
      have h : DataW.trod enc Try.prog W 0 (fun _ => true) held n' 3 (([c0, c1, c2, c3, c4, c5, c6, c7, c8, c9, c10].drop 1).take (Try.prog.cellsOf 3)) = xs[1]? := hf 1 _ rfl
      rw [k3] at h
      exact h
    have f2 : DataW.trod enc Try.prog W 0 (fun _ => true) held n' 3 [c2] = xs[2]? := by
      have h : DataW.trod enc Try.prog W 0 (fun _ => true) held n' 3 (([c0, c1, c2, c3, c4, c5, c6, c7, c8, c9, c10].drop 2).take (Try.prog.cellsOf 3)) = xs[2]? := hf 2 _ rfl
      rw [k3] at h
      exact h
    have f3 : DataW.trod enc Try.prog W 0 (fun _ => true) held n' 3 [c3] = xs[3]? := by
      have h : DataW.trod enc Try.prog W 0 (fun _ => true) held n' 3 (([c0, c1, c2, c3, c4, c5, c6, c7, c8, c9, c10].drop 3).take (Try.prog.cellsOf 3)) = xs[3]? := hf 3 _ rfl
      rw [k3] at h
      exact h
    have f4 : DataW.trod enc Try.prog W 0 (fun _ => true) held n' 3 [c4] = xs[4]? := by
      have h : DataW.trod enc Try.prog W 0 (fun _ => true) held n' 3 (([c0, c1, c2, c3, c4, c5, c6, c7, c8, c9, c10].drop 4).take (Try.prog.cellsOf 3)) = xs[4]? := hf 4 _ rfl
      rw [k3] at h
      exact h
    have f5 : DataW.trod enc Try.prog W 0 (fun _ => true) held n' 36 [c5] = xs[5]? := by
      have h : DataW.trod enc Try.prog W 0 (fun _ => true) held n' 36 (([c0, c1, c2, c3, c4, c5, c6, c7, c8, c9, c10].drop 5).take (Try.prog.cellsOf 36)) = xs[5]? := hf 5 _ rfl
      rw [k36] at h
      exact h
    have f6 : DataW.trod enc Try.prog W 0 (fun _ => true) held n' 37 [c6] = xs[6]? := by
      have h : DataW.trod enc Try.prog W 0 (fun _ => true) held n' 37 (([c0, c1, c2, c3, c4, c5, c6, c7, c8, c9, c10].drop 6).take (Try.prog.cellsOf 37)) = xs[6]? := hf 6 _ rfl
      rw [k37] at h
      exact h
    have f7 : DataW.trod enc Try.prog W 0 (fun _ => true) held n' 37 [c7] = xs[7]? := by
      have h : DataW.trod enc Try.prog W 0 (fun _ => true) held n' 37 (([c0, c1, c2, c3, c4, c5, c6, c7, c8, c9, c10].drop 7).take (Try.prog.cellsOf 37)) = xs[7]? := hf 7 _ rfl
      rw [k37] at h
      exact h
    have f8 : DataW.trod enc Try.prog W 0 (fun _ => true) held n' 5 [c8] = xs[8]? := by
      have h : DataW.trod enc Try.prog W 0 (fun _ => true) held n' 5 (([c0, c1, c2, c3, c4, c5, c6, c7, c8, c9, c10].drop 8).take (Try.prog.cellsOf 5)) = xs[8]? := hf 8 _ rfl
      rw [k5] at h
      exact h
    have f9 : DataW.trod enc Try.prog W 0 (fun _ => true) held n' 3 [c9] = xs[9]? := by
      have h : DataW.trod enc Try.prog W 0 (fun _ => true) held n' 3 (([c0, c1, c2, c3, c4, c5, c6, c7, c8, c9, c10].drop 9).take (Try.prog.cellsOf 3)) = xs[9]? := hf 9 _ rfl
      rw [k3] at h
      exact h
    have f10 : DataW.trod enc Try.prog W 0 (fun _ => true) held n' 38 [c10] = xs[10]? := by
      have h : DataW.trod enc Try.prog W 0 (fun _ => true) held n' 38 (([c0, c1, c2, c3, c4, c5, c6, c7, c8, c9, c10].drop 10).take (Try.prog.cellsOf 38)) = xs[10]? := hf 10 _ rfl
      rw [k38] at h
      exact h
    obtain ⟨_, f0⟩ := g 0 _ _ (by omega) f0
    obtain ⟨_, f1⟩ := g 1 _ _ (by omega) f1
    obtain ⟨_, f2⟩ := g 2 _ _ (by omega) f2
    obtain ⟨_, f3⟩ := g 3 _ _ (by omega) f3
    obtain ⟨_, f4⟩ := g 4 _ _ (by omega) f4
    obtain ⟨_, f5⟩ := g 5 _ _ (by omega) f5
    obtain ⟨_, f6⟩ := g 6 _ _ (by omega) f6
    obtain ⟨_, f7⟩ := g 7 _ _ (by omega) f7
    obtain ⟨_, f8⟩ := g 8 _ _ (by omega) f8
    obtain ⟨_, f9⟩ := g 9 _ _ (by omega) f9
    obtain ⟨_, f10⟩ := g 10 _ _ (by omega) f10
    obtain ⟨n0, e0, _, w0⟩ := DataW.trod_int Try.underlying3 f0
    obtain ⟨n1, e1, _, w1⟩ := DataW.trod_int Try.underlying3 f1
    obtain ⟨n2, e2, _, w2⟩ := DataW.trod_int Try.underlying3 f2
    obtain ⟨n3, e3, _, w3⟩ := DataW.trod_int Try.underlying3 f3
    obtain ⟨n4, e4, _, w4⟩ := DataW.trod_int Try.underlying3 f4
    obtain ⟨n5, e5, _, w5⟩ := DataW.trod_int Try.underlying36 f5
    obtain ⟨n6, e6, _, w6⟩ := DataW.trod_int Try.underlying37 f6
    obtain ⟨n7, e7, _, w7⟩ := DataW.trod_int Try.underlying37 f7
    obtain ⟨n8, e8, _, w8⟩ := DataW.trod_int Try.underlying5 f8
    obtain ⟨n9, e9, _, w9⟩ := DataW.trod_int Try.underlying3 f9
    obtain ⟨v10, zs, e10, hz, hr⟩ := ints_open f10
    simp only [List.cons.injEq, and_true] at e0 e1 e2 e3 e4 e5 e6 e7 e8 e9 e10
    subst e0 e1 e2 e3 e4 e5 e6 e7 e8 e9 e10
    refine ⟨⟨n0, n1, n2, n3, n4, n5, n6, n7, n8, n9, zs, c10⟩, rfl, ⟨wf_i64 w0, wf_i64 w1, wf_i64 w2, wf_i64 w3, wf_i64 w4, ?_, ?_, ?_, ?_, wf_i64 w9, hz⟩, hr⟩
    · simpa [Lit.wf, IntKind.min, IntKind.max, IntKind.signed, IntKind.bits] using w5
    · simpa [Lit.wf, IntKind.min, IntKind.max, IntKind.signed, IntKind.bits] using w6
    · simpa [Lit.wf, IntKind.min, IntKind.max, IntKind.signed, IntKind.bits] using w7
    · simpa [Lit.wf, IntKind.min, IntKind.max, IntKind.signed, IntKind.bits] using w8
theorem acts_open {base : Nat} {v : Value} {d : DataW H} {ps : List MemPlace} (hval : Value.okWide Try.prog W .any base 22 v) (h : DataW.Trod enc Try.prog W 0 (fun _ => true) true 22 v d ps) :
    ∃ acts, ActsAt W v acts := by
  obtain ⟨a0, len, cap, rfl⟩ := okWide_slice Try.underlying22 hval
  obtain ⟨fuel, hf⟩ := h
  rcases open_slice Try.underlying22 hf with ⟨hcs, _⟩ | ⟨a, len', cap', m, n, D, Pl, hcs, hb, hl, hm, hmm, hx, hi⟩
  · simp [Value.cells] at hcs
    obtain ⟨rfl, rfl, rfl⟩ := hcs
    exact ⟨[], none, 0, rfl, by simp [maxLen], fun h => absurd rfl h⟩
  · simp [Value.cells] at hcs
    obtain ⟨rfl, rfl, rfl⟩ := hcs
    have k11 : Try.prog.cellsOf 40 = 11 := by kernel_rfl
    have hm' : len ≤ m := by rw [hmm]; simpa using hl
    have hel : ∀ i, i < len → ∃ x : ActA, (∀ j u, x.row[j]? = some u → W.cell? ((a.add (i * 11)).add j) = some u) ∧ x.Ok ∧ ∀ w, Below W.heap.size W w → ReadsW w 1 x.fv x.fates.length (i64s x.fates) := by
      intro i hlt
      obtain ⟨cs', hc, ht⟩ := hi i (by omega)
      rw [k11] at hc
      obtain ⟨_, hcl, hat⟩ := World.cells?_some hc
      obtain ⟨x, rfl, h1, h2⟩ := act_open ht
      refine ⟨x, fun j u hj => ?_, h1, h2⟩
      have hj' := (List.getElem?_eq_some_iff.1 hj).1
      rw [hat j (by rw [hcl] at hj'; exact hj')]
      exact hj
    have hz : ∃ zs : List ActA, zs.length = len ∧ ∀ (i : Nat) (x : ActA), zs[i]? = some x → (∀ j u, x.row[j]? = some u → W.cell? ((a.add (i * 11)).add j) = some u) ∧ x.Ok ∧ ∀ w, Below W.heap.size W w → ReadsW w 1 x.fv x.fates.length (i64s x.fates) := by
      refine ⟨(List.range len).map fun i => if h : i < len then (hel i h).choose else ⟨0, 0, 0, 0, 0, 0, 0, 0, 0, 0, [], undef⟩, by simp, ?_⟩
      intro i z hz
      rw [List.getElem?_map] at hz
      obtain ⟨j, hj, rfl⟩ := Option.map_eq_some_iff.1 hz
      obtain ⟨h1, h2⟩ := List.getElem?_eq_some_iff.1 hj
      simp at h1 h2
      subst h2
      rw [dif_pos h1]
      exact (hel i h1).choose_spec
    obtain ⟨acts, hzl, hzc⟩ := hz
    refine ⟨acts, some a, cap, by rw [hzl], by simp only [maxLen] at *; omega, fun hne => ?_⟩
    have hpos : 0 < acts.length := by cases acts with | nil => exact absurd rfl hne | cons => simp
    have h0 := (hzc 0 (acts[0]'hpos) (by simp [hpos])).1 0 _ rfl
    have hadd : ((a.add (0 * 11)).add 0) = a := rfl
    rw [hadd] at h0
    have hs := World.cell?_spot h0
    have hbk := cell_block h0
    obtain ⟨ab, ao, sp⟩ := a
    simp only at hs hbk
    subst hs
    refine ⟨ab, ao, rfl, hbk, fun i x hx => ?_⟩
    obtain ⟨q1, q2, q3⟩ := hzc i x hx
    refine ⟨fun j u hj => ?_, q2, q3⟩
    have := q1 j u hj
    rw [add_mk, add_mk, Nat.add_assoc] at this
    exact this
end
end Go.Proofs.Ytnkjkkbjplneeaa
