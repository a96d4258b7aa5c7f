/-
  The document's powers and devices, over the same thoughts.
-/
import Derived.Test.YtnkjkkbjplneeaaSLStr
import Derived.Test.YtnkjkkbjplneeaaDevA
namespace Go.Proofs.Ytnkjkkbjplneeaa
open Go.RowKit Go.SL
set_option maxRecDepth 100000
set_option linter.unusedSimpArgs false
set_option linter.unusedVariables false
def rpowO (q : Nat) (p : PowA) : HProp := ex fun left : Int => blk q (.cells #[.bool p.off, .bool (decide (0 ≤ p.fuse)), .int .i64 left, .int .i64 p.done] 81 (0, 0)) * pr (0 ≤ p.fuse → left = p.fuse)
def oneC (s : Sec) (lv : Value) : List Value := [strV s.fixed, lv, .bool s.rotten]
def onesL (lvs : List Value) (secs : List Sec) : List (List Value) := List.zipWith (fun lv s => oneC s lv) lvs secs
def strsO (lv : Value) (s : Sec) : HProp := vecB 9 1 lv s.loose.length (strsV s.loose)
structure RG where
  sb : Nat
  lvs : List Value
def rcells (q : Nat) (D : DevA) (g : RG) : Array Value := #[.pointer (some ⟨q, 0, none⟩), .slice (some ⟨g.sb, 0, none⟩) D.secs.length D.secs.length, .int .u64 (D.reads : Int), .int .u64 (D.writes : Int)]
def rdevG (e q : Nat) (D : DevA) (g : RG) : HProp :=
  stars (List.zipWith strsO g.lvs D.secs) * blk g.sb (.cells (onesL g.lvs D.secs).flatten.toArray 62 (0, 0)) * blk e (.cells (rcells q D g) 57 (0, 0))
def rdevO (e q : Nat) (D : DevA) : HProp := ex fun g : RG => rdevG e q D g * pr (g.lvs.length = D.secs.length ∧ D.Ok)
section
variable {W0 w : World} {F : HProp} {q e : Nat} {p : PowA} {D : DevA} {g : RG}
theorem rpowO.open (h : S W0 w (F * rpowO q p)) : ∃ left : Int, (0 ≤ p.fuse → left = p.fuse) ∧ S W0 w (F * blk q (.cells #[.bool p.off, .bool (decide (0 ≤ p.fuse)), .int .i64 left, .int .i64 p.done] 81 (0, 0))) := by
  obtain ⟨left, h⟩ := S.of_ex h
  have h' : S W0 w (F * blk q (.cells #[.bool p.off, .bool (decide (0 ≤ p.fuse)), .int .i64 left, .int .i64 p.done] 81 (0, 0)) * pr (0 ≤ p.fuse → left = p.fuse)) := h.perm
  exact ⟨left, h'.of_pr⟩
theorem rpowO.shut {left : Int} (h : S W0 w (F * blk q (.cells #[.bool p.off, .bool (decide (0 ≤ p.fuse)), .int .i64 left, .int .i64 p.done] 81 (0, 0)))) (hl : 0 ≤ p.fuse → left = p.fuse) : S W0 w (F * rpowO q p) :=
  S.to_ex left (S.perm (h.to_pr hl))
theorem rdevO.open (h : S W0 w (F * rdevO e q D)) : ∃ g : RG, g.lvs.length = D.secs.length ∧ D.Ok ∧ S W0 w (F * rdevG e q D g) := by
  obtain ⟨g, h⟩ := S.of_ex h
  have h' : S W0 w (F * rdevG e q D g * pr (g.lvs.length = D.secs.length ∧ D.Ok)) := h.perm
  obtain ⟨⟨h1, h2⟩, h3⟩ := h'.of_pr
  exact ⟨g, h1, h2, h3⟩
theorem rdevO.shut (h : S W0 w (F * rdevG e q D g)) (hl : g.lvs.length = D.secs.length) (ho : D.Ok) : S W0 w (F * rdevO e q D) :=
  S.to_ex g (S.perm (h.to_pr (p := g.lvs.length = D.secs.length ∧ D.Ok) ⟨hl, ho⟩))
theorem rdevG.top (h : S W0 w (F * rdevG e q D g)) : S W0 w (F * stars (List.zipWith strsO g.lvs D.secs) * blk g.sb (.cells (onesL g.lvs D.secs).flatten.toArray 62 (0, 0)) * blk e (.cells (rcells q D g) 57 (0, 0))) := by
  unfold rdevG at h; exact h.perm
theorem rdevG.of_top (h : S W0 w (F * stars (List.zipWith strsO g.lvs D.secs) * blk g.sb (.cells (onesL g.lvs D.secs).flatten.toArray 62 (0, 0)) * blk e (.cells (rcells q D g) 57 (0, 0)))) : S W0 w (F * rdevG e q D g) := by
  unfold rdevG; exact h.perm
theorem rdevG.cells (h : S W0 w (F * rdevG e q D g)) : w.cell? ⟨e, 0, none⟩ = some (.pointer (some ⟨q, 0, none⟩)) ∧ w.cell? ⟨e, 1, none⟩ = some (.slice (some ⟨g.sb, 0, none⟩) D.secs.length D.secs.length) ∧
    w.cell? ⟨e, 2, none⟩ = some (.int .u64 (D.reads : Int)) ∧ w.cell? ⟨e, 3, none⟩ = some (.int .u64 (D.writes : Int)) ∧ (∀ i, w.frozen? ⟨e, i, none⟩ = false) := by
  have hh := (rdevG.top h).heap
  exact ⟨cell_at hh, cell_at hh, cell_at hh, cell_at hh, fun i => free_at hh⟩
theorem onesL_len (lvs : List Value) (secs : List Sec) : ∀ l ∈ onesL lvs secs, l.length = 3 := by
  intro l hl
  unfold onesL at hl
  obtain ⟨i, hi, rfl⟩ := List.mem_iff_getElem.1 hl
  simp [oneC]
theorem onesL_get {lvs : List Value} {secs : List Sec} {i : Nat} {lv : Value} {s : Sec} (h1 : lvs[i]? = some lv) (h2 : secs[i]? = some s) : (onesL lvs secs)[i]? = some (oneC s lv) := by
  simp [onesL, List.getElem?_zipWith, h1, h2]
/-- The cells of a sector. -/
theorem rdevG.at (h : S W0 w (F * rdevG e q D g)) (hl : g.lvs.length = D.secs.length) {i : Nat} {s : Sec} (hi : D.secs[i]? = some s) : ∃ lv, g.lvs[i]? = some lv ∧
    w.cell? ⟨g.sb, i * 3, none⟩ = some (strV s.fixed) ∧ w.cell? ⟨g.sb, i * 3 + 1, none⟩ = some lv ∧ w.cell? ⟨g.sb, i * 3 + 2, none⟩ = some (.bool s.rotten) ∧ (∀ j, w.frozen? ⟨g.sb, j, none⟩ = false) := by
  obtain ⟨hlt, _⟩ := List.getElem?_eq_some_iff.1 hi
  have hlv : g.lvs[i]? = some (g.lvs[i]'(by omega)) := by simp [show i < g.lvs.length by omega]
  have hh := (rdevG.top h).p1.heap
  have hg := onesL_get hlv hi
  have f := flat_get 3 (onesL g.lvs D.secs) (onesL_len _ _) i
  refine ⟨_, hlv, ?_, ?_, ?_, fun j => free_at hh⟩
  · rw [cell_at hh]; simpa [oneC] using f 0 _ hg (by decide)
  · rw [cell_at hh]; simpa [oneC] using f 1 _ hg (by decide)
  · rw [cell_at hh]; simpa [oneC] using f 2 _ hg (by decide)
theorem strsO_get (hl : g.lvs.length = D.secs.length) {i : Nat} {s : Sec} {lv : Value} (hi : D.secs[i]? = some s) (hv : g.lvs[i]? = some lv) :
    stars (List.zipWith strsO g.lvs D.secs) = stars ((List.zipWith strsO g.lvs D.secs).set i emp) * strsO lv s := by
  obtain ⟨h1, rfl⟩ := List.getElem?_eq_some_iff.1 hi
  obtain ⟨h2, rfl⟩ := List.getElem?_eq_some_iff.1 hv
  have := stars_get (List.zipWith strsO g.lvs D.secs) i (by simp; omega)
  rw [this]; simp
theorem strsO_set (lvs : List Value) (secs : List Sec) (hl : lvs.length = secs.length) {i : Nat} (hi : i < secs.length) (lv : Value) (s : Sec) :
    stars (List.zipWith strsO (lvs.set i lv) (secs.set i s)) = stars ((List.zipWith strsO lvs secs).set i emp) * strsO lv s := by
  have e : List.zipWith strsO (lvs.set i lv) (secs.set i s) = (List.zipWith strsO lvs secs).set i (strsO lv s) := by
    apply List.ext_getElem?
    intro j
    simp only [List.getElem?_zipWith, List.getElem?_set, List.length_zipWith]
    by_cases hij : i = j
    · subst hij; simp [show i < lvs.length by omega, hi, show i < min lvs.length secs.length by omega]
    · simp [hij]
  rw [e, stars_set _ _ _ (by simp; omega)]
theorem onesL_set (lvs : List Value) (secs : List Sec) (i : Nat) (lv : Value) (s : Sec) (hl : lvs.length = secs.length) (hi : i < secs.length) : onesL (lvs.set i lv) (secs.set i s) = (onesL lvs secs).set i (oneC s lv) := by
  apply List.ext_getElem?
  intro j
  simp only [onesL, List.getElem?_zipWith, List.getElem?_set, List.length_zipWith]
  by_cases hij : i = j
  · subst hij; simp [show i < lvs.length by omega, hi, show i < min lvs.length secs.length by omega]
  · simp [hij]
end
end Go.Proofs.Ytnkjkkbjplneeaa
