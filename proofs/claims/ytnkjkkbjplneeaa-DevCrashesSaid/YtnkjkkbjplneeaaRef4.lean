/-
  What the document's Flush does.
-/
import Derived.Test.YtnkjkkbjplneeaaRef2
import Derived.Test.YtnkjkkbjplneeaaDevFlush
import Derived.Test.YtnkjkkbjplneeaaRefNew
namespace Go.Proofs.Ytnkjkkbjplneeaa
open Go.RowKit Go.SL
set_option maxRecDepth 100000
set_option linter.unusedSimpArgs false
set_option linter.unusedVariables false
section
variable {W0 w : World} {F : HProp} {q e : Nat} {D : DevA} {g : RG}
/-- A sector laid anew, without loose writes. -/
theorem rdev_put (h : S W0 w (F * rdevG e q D g)) (hl : g.lvs.length = D.secs.length) (ho : D.Ok) {i : Nat} {s : Sec} (hi : D.secs[i]? = some s) (s' : Sec) (hok : s'.Ok) (hlo : s'.loose = []) :
    S W0 (((w.setCell ⟨g.sb, i * 3, none⟩ (strV s'.fixed)).setCell ⟨g.sb, i * 3 + 1, none⟩ (.slice none 0 0)).setCell ⟨g.sb, i * 3 + 2, none⟩ (.bool s'.rotten)) (F * rdevO e q { D with secs := D.secs.set i s' }) := by
  have hlt := (List.getElem?_eq_some_iff.1 hi).1
  have hlv : g.lvs[i]? = some (g.lvs[i]'(by omega)) := by simp [show i < g.lvs.length by omega]
  have k := (((rdevG.top h).p1.set (i := i * 3) (v := strV s'.fixed)).set (i := i * 3 + 1) (v := .slice none 0 0)).set (i := i * 3 + 2) (v := .bool s'.rotten)
  have hgv := onesL_get hlv hi
  have hset := onesL_set g.lvs D.secs i (.slice none 0 0) s' hl hlt
  have hlen3 := onesL_len g.lvs D.secs
  have f0 := flat_set 3 (onesL g.lvs D.secs) hlen3 i 0 _ (strV s'.fixed) hgv (by decide)
  have hone : ∀ (ls : List (List Value)) (j : Nat) (a : List Value), (∀ l ∈ ls, l.length = 3) → a.length = 3 → ∀ l ∈ ls.set j a, l.length = 3 := by
    intro ls j a h1 h2 l hl
    rcases List.mem_or_eq_of_mem_set hl with h | rfl
    · exact h1 l h
    · exact h2
  have hil : i < (onesL g.lvs D.secs).length := (List.getElem?_eq_some_iff.1 hgv).1
  have hl1 := hone (onesL g.lvs D.secs) i ((oneC s g.lvs[i]).set 0 (strV s'.fixed)) hlen3 (by simp [oneC])
  have f1 := flat_set 3 _ hl1 i 1 ((oneC s g.lvs[i]).set 0 (strV s'.fixed)) (.slice none 0 0) (by simp [List.getElem?_set, hil]) (by decide)
  have hl2 := hone _ i (((oneC s g.lvs[i]).set 0 (strV s'.fixed)).set 1 (.slice none 0 0)) hl1 (by simp [oneC])
  have f2 := flat_set 3 _ hl2 i 2 (((oneC s g.lvs[i]).set 0 (strV s'.fixed)).set 1 (.slice none 0 0)) (.bool s'.rotten) (by simp [List.getElem?_set, hil]) (by decide)
  have hrow : (((onesL g.lvs D.secs).flatten.toArray.setIfInBounds (i * 3) (strV s'.fixed)).setIfInBounds (i * 3 + 1) (.slice none 0 0)).setIfInBounds (i * 3 + 2) (.bool s'.rotten) = (onesL (g.lvs.set i (.slice none 0 0)) (D.secs.set i s')).flatten.toArray := by
    rw [Nat.add_zero] at f0
    simp only [List.setIfInBounds_toArray]
    rw [f0, f1, f2, hset]
    simp [oneC, List.set_set, hlo]
  refine rdevO.shut (g := { g with lvs := g.lvs.set i (.slice none 0 0) }) (rdevG.of_top ?_) (by simpa using hl) ?_
  · have e1 := strsO_set g.lvs D.secs hl hlt (.slice none 0 0) s'
    have e2 := strsO_get hl hi hlv
    have e3 : strsO (.slice none 0 0) s' = emp := by
      unfold strsO
      rw [hlo]
      exact vecB_nil
    have e4 : rcells q { D with secs := D.secs.set i s' } { g with lvs := g.lvs.set i (.slice none 0 0) } = rcells q D g := by simp [rcells]
    rw [e4]
    dsimp only at k e1 e2 ⊢
    rw [e1, e3, ← hrow]
    rw [e2] at k
    rw [star_emp]
    generalize hX : strsO g.lvs[i] s = X at k
    have k2 : S W0 (((w.setCell ⟨g.sb, i * 3, none⟩ (strV s'.fixed)).setCell ⟨g.sb, i * 3 + 1, none⟩ (.slice none 0 0)).setCell ⟨g.sb, i * 3 + 2, none⟩ (.bool s'.rotten)) (F * stars ((List.zipWith strsO g.lvs D.secs).set i emp) * blk g.sb (.cells ((((onesL g.lvs D.secs).flatten.toArray.setIfInBounds (i * 3) (strV s'.fixed)).setIfInBounds (i * 3 + 1) (.slice none 0 0)).setIfInBounds (i * 3 + 2) (.bool s'.rotten)) 62 (0, 0)) *
        blk e (.cells (rcells q D g) 57 (0, 0)) * X) := k.perm
    exact k2.left
  · obtain ⟨o1, o2, o3, o4⟩ := ho
    refine ⟨o1, o2, by simpa using o3, fun x hx => ?_⟩
    rcases List.mem_or_eq_of_mem_set hx with h | rfl
    · exact o4 x h
    · exact hok
end
end Go.Proofs.Ytnkjkkbjplneeaa
