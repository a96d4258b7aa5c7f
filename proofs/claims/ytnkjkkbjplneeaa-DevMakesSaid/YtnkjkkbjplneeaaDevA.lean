/-
  Devices, as they are thought of: sectors with what is fixed, their loose writes, whether they are rotten; and how dev.Dev keeps them.
-/
import Derived.Test.YtnkjkkbjplneeaaPow
import Derived.Test.YtnkjkkbjplneeaaSLMap
import Derived.Test.YtnkjkkbjplneeaaSLVec
namespace Go.Proofs.Ytnkjkkbjplneeaa
open Go.RowKit Go.SL
set_option linter.unusedSimpArgs false
set_option linter.unusedVariables false
structure Sec where
  fixed : List UInt8
  loose : List (List UInt8)
  rotten : Bool
namespace Sec
def stands (s : Sec) : List UInt8 := s.loose.getLast?.getD s.fixed
def Ok (s : Sec) : Prop := s.fixed.length = 64 ∧ ∀ l ∈ s.loose, l.length = 64
theorem Ok.stands {s : Sec} (h : s.Ok) : s.stands.length = 64 := by
  unfold Sec.stands
  cases e : s.loose.getLast? with
  | none => exact h.1
  | some l => exact h.2 l (List.mem_of_getLast? e)
end Sec
structure DevA where
  secs : List Sec
  reads : Nat
  writes : Nat
namespace DevA
def Ok (D : DevA) : Prop := D.reads < 18446744073709551616 ∧ D.writes < 18446744073709551616 ∧ D.secs.length ≤ 4096 ∧ ∀ s ∈ D.secs, s.Ok
def Small (D : DevA) (n : Nat) : Prop := ∀ s ∈ D.secs, s.loose.length ≤ n
def has (D : DevA) (at_ : Int) : Bool := decide (0 ≤ at_) && decide (at_ < D.secs.length)
end DevA
/-- A slice of slices of bytes. -/
def rowsO (v : Value) (ls : List (List UInt8)) : HProp := ex fun vs : List Value => vecB 44 1 v ls.length vs * stars (List.zipWith (fun x l => bytesV x 5 l) vs ls) * pr (vs.length = ls.length)
/-- A sector: what is fixed, and its loose writes. -/
def looseO : Option Value → List (List UInt8) → HProp
  | none, ls => pr (ls = [])
  | some v, ls => rowsO v ls * pr (ls ≠ [])
def secO (fv : Value) (lv : Option Value) (s : Sec) : HProp := bytesV fv 5 s.fixed * looseO lv s.loose
def secsL (fvs : List Value) (lvs : List (Option Value)) (secs : List Sec) : List HProp := List.zipWith (fun p s => secO p.1 p.2 s) (fvs.zip lvs) secs
structure DevG where
  fb : Nat
  lm : Nat
  rm : Nat
  fvs : List Value
  lvs : List (Option Value)
  kv : List (Int × Value)
  kvr : List (Int × Value)
def DevG.Ok (g : DevG) (D : DevA) : Prop := g.fvs.length = D.secs.length ∧ g.lvs.length = D.secs.length ∧ (∀ k : Int, g.kv.lookup k = if 0 ≤ k then (g.lvs[k.toNat]?).join else none) ∧
  (∀ k : Int, g.kvr.lookup k = if 0 ≤ k ∧ (D.secs[k.toNat]?).map (·.rotten) = some true then some (.int .i64 1) else none) ∧ D.Ok
def devCells (pw : Nat) (D : DevA) (g : DevG) : Array Value := #[.pointer (some ⟨pw, 0, none⟩), .slice (some ⟨g.fb, 0, none⟩) D.secs.length D.secs.length, .map (some g.lm), .map (some g.rm), .int .u64 (D.reads : Int), .int .u64 (D.writes : Int)]
def devG (b pw : Nat) (D : DevA) (g : DevG) : HProp :=
  stars (secsL g.fvs g.lvs D.secs) * mapB .i64 g.rm g.kvr * mapB .i64 g.lm g.kv * blk g.fb (.cells g.fvs.toArray 44 (0, 0)) * blk b (.cells (devCells pw D g) 73 (0, 0))
def devO (b pw : Nat) (D : DevA) : HProp := ex fun g : DevG => devG b pw D g * pr (g.Ok D)
section
variable {W0 w : World} {F : HProp} {b pw : Nat} {D : DevA} {g : DevG}
theorem devO.open (h : S W0 w (F * devO b pw D)) : ∃ g : DevG, g.Ok D ∧ S W0 w (F * devG b pw D g) := by
  obtain ⟨g, h⟩ := S.of_ex h
  have h' : S W0 w (F * devG b pw D g * pr (g.Ok D)) := h.perm
  exact ⟨g, h'.of_pr⟩
theorem devO.shut (h : S W0 w (F * devG b pw D g)) (ho : g.Ok D) : S W0 w (F * devO b pw D) := by
  refine S.to_ex g ?_
  have h' : S W0 w (F * devG b pw D g * pr (g.Ok D)) := h.to_pr ho
  exact h'.perm
theorem devG.top (h : S W0 w (F * devG b pw D g)) : S W0 w (F * stars (secsL g.fvs g.lvs D.secs) * mapB .i64 g.rm g.kvr * mapB .i64 g.lm g.kv * blk g.fb (.cells g.fvs.toArray 44 (0, 0)) * blk b (.cells (devCells pw D g) 73 (0, 0))) := by
  unfold devG at h; exact h.perm
theorem devG.of_top (h : S W0 w (F * stars (secsL g.fvs g.lvs D.secs) * mapB .i64 g.rm g.kvr * mapB .i64 g.lm g.kv * blk g.fb (.cells g.fvs.toArray 44 (0, 0)) * blk b (.cells (devCells pw D g) 73 (0, 0)))) : S W0 w (F * devG b pw D g) := by
  unfold devG; exact h.perm
theorem devG.cells (h : S W0 w (F * devG b pw D g)) : w.cell? ⟨b, 0, none⟩ = some (.pointer (some ⟨pw, 0, none⟩)) ∧ w.cell? ⟨b, 1, none⟩ = some (.slice (some ⟨g.fb, 0, none⟩) D.secs.length D.secs.length) ∧ w.cell? ⟨b, 2, none⟩ = some (.map (some g.lm)) ∧
    w.cell? ⟨b, 3, none⟩ = some (.map (some g.rm)) ∧ w.cell? ⟨b, 4, none⟩ = some (.int .u64 (D.reads : Int)) ∧ w.cell? ⟨b, 5, none⟩ = some (.int .u64 (D.writes : Int)) ∧ ∀ i, w.frozen? ⟨b, i, none⟩ = false := by
  have hh := (devG.top h).heap
  exact ⟨cell_at hh, cell_at hh, cell_at hh, cell_at hh, cell_at hh, cell_at hh, fun i => free_at hh⟩
theorem rowsO.open {v : Value} {ls : List (List UInt8)} (h : S W0 w (F * rowsO v ls)) : ∃ vs : List Value, vs.length = ls.length ∧ S W0 w (F * vecB 44 1 v ls.length vs * stars (List.zipWith (fun x l => bytesV x 5 l) vs ls)) := by
  obtain ⟨vs, h⟩ := S.of_ex h
  obtain ⟨h1, h2⟩ := S.of_pr h.assoc
  exact ⟨vs, h1, h2.assoc⟩
theorem rowsO.shut {v : Value} {ls : List (List UInt8)} {vs : List Value} (h : S W0 w (F * vecB 44 1 v ls.length vs * stars (List.zipWith (fun x l => bytesV x 5 l) vs ls))) (hl : vs.length = ls.length) : S W0 w (F * rowsO v ls) :=
  S.to_ex vs (S.unassoc ((h.to_pr hl).perm))
/-- A row of rows is read at a place. -/
theorem rowsO.at {v : Value} {ls : List (List UInt8)} (h : S W0 w (F * rowsO v ls)) {j : Nat} {l : List UInt8} (hj : ls[j]? = some l) :
    ∃ q m u, v = .slice (some ⟨q, 0, none⟩) ls.length m ∧ ls.length ≤ m ∧ m ≤ maxLen ∧ w.cell? ⟨q, j, none⟩ = some u ∧ Reads w 1 u l.length (u8s l) := by
  obtain ⟨vs, hvl, h5⟩ := rowsO.open h
  obtain ⟨hlt, rfl⟩ := List.getElem?_eq_some_iff.1 hj
  rcases S.vec h5.p1 with ⟨_, h0, _⟩ | ⟨q, m, spare, rfl, q1, q2, q3, q4, h6⟩
  · omega
  have e := stars_get (List.zipWith (fun x l => bytesV x 5 l) vs ls) j (by simp; omega)
  rw [e] at h5
  refine ⟨q, m, vs[j]'(by omega), rfl, q3, q4, ?_, ?_⟩
  · rw [cell_at h6.heap]
    simp [List.getElem?_append_left (show j < vs.length by omega), show j < vs.length by omega]
  · have h7 := h5.assoc
    simp only [List.getElem_zipWith] at h7
    exact S.reads h7
theorem looseO.open {lv : Option Value} {ls : List (List UInt8)} (h : S W0 w (F * looseO lv ls)) :
    ∃ vs : List Value, vs.length = ls.length ∧ (lv = none ↔ ls = []) ∧ S W0 w (F * vecB 44 1 (lv.getD (.slice none 0 0)) ls.length vs * stars (List.zipWith (fun x l => bytesV x 5 l) vs ls)) := by
  cases lv with
  | none =>
    obtain ⟨rfl, hh⟩ := S.of_pr h
    refine ⟨[], rfl, by simp, ?_⟩
    have h1 := hh.to_vec_nil (T := 44) (k := 1)
    have : S W0 w (F * vecB 44 1 (.slice none 0 0) 0 [] * emp) := by rw [star_emp]; exact h1
    exact this
  | some v =>
    obtain ⟨h1, h2⟩ := S.of_pr h.assoc
    obtain ⟨vs, h3, h4⟩ := rowsO.open h2
    exact ⟨vs, h3, by simp [h1], h4⟩
theorem looseO.shut {v : Value} {ls : List (List UInt8)} {vs : List Value} (h : S W0 w (F * vecB 44 1 v ls.length vs * stars (List.zipWith (fun x l => bytesV x 5 l) vs ls))) (hl : vs.length = ls.length) (hne : ls ≠ []) : S W0 w (F * looseO (some v) ls) :=
  S.unassoc (S.to_pr hne (rowsO.shut h hl))
theorem stars_rows_snoc {vs : List Value} {ls : List (List UInt8)} (h : vs.length = ls.length) (v : Value) (l : List UInt8) :
    stars (List.zipWith (fun x l => bytesV x 5 l) (vs ++ [v]) (ls ++ [l])) = stars (List.zipWith (fun x l => bytesV x 5 l) vs ls) * bytesV v 5 l := by
  rw [List.zipWith_append h]; exact stars_snoc _ _
theorem secsL_length (h1 : g.fvs.length = D.secs.length) (h2 : g.lvs.length = D.secs.length) : (secsL g.fvs g.lvs D.secs).length = D.secs.length := by simp [secsL, h1, h2]
theorem secsL_get (h1 : g.fvs.length = D.secs.length) (h2 : g.lvs.length = D.secs.length) {i : Nat} (hi : i < D.secs.length) : (secsL g.fvs g.lvs D.secs)[i]'(by rw [secsL_length h1 h2]; exact hi) = secO (g.fvs[i]'(by omega)) (g.lvs[i]'(by omega)) D.secs[i] := by simp [secsL]
theorem secsL_set (fvs : List Value) (lvs : List (Option Value)) (secs : List Sec) (h1 : fvs.length = secs.length) (h2 : lvs.length = secs.length) (i : Nat) (fv : Value) (lv : Option Value) (s : Sec) :
    secsL (fvs.set i fv) (lvs.set i lv) (secs.set i s) = (secsL fvs lvs secs).set i (secO fv lv s) := by
  apply List.ext_getElem?
  intro j
  simp only [secsL, List.getElem?_zipWith, List.getElem?_set, List.length_zipWith, List.length_zip]
  by_cases hij : i = j
  · subst hij
    by_cases hi : i < secs.length
    · simp [hi, h1, h2, List.getElem?_zip_eq_some, List.zip, List.getElem?_zipWith]
    · simp [hi, h1, h2, List.zip, List.getElem?_zipWith]
  · simp [hij, List.zip, List.getElem?_zipWith]
/-- The parts of a device, one sector taken out. -/
theorem devG.sec (h : S W0 w (F * devG b pw D g)) (ho : g.Ok D) {i : Nat} {s : Sec} (hi : D.secs[i]? = some s) : ∃ fv lv, g.fvs[i]? = some fv ∧ g.lvs[i]? = some lv ∧
    S W0 w (F * mapB .i64 g.rm g.kvr * mapB .i64 g.lm g.kv * blk g.fb (.cells g.fvs.toArray 44 (0, 0)) * blk b (.cells (devCells pw D g) 73 (0, 0)) * stars ((secsL g.fvs g.lvs D.secs).set i emp) * secO fv lv s) := by
  obtain ⟨h1, h2, _⟩ := ho
  obtain ⟨hlt, rfl⟩ := List.getElem?_eq_some_iff.1 hi
  refine ⟨g.fvs[i]'(by omega), g.lvs[i]'(by omega), by simp [h1, hlt], by simp [h2, hlt], ?_⟩
  have e := stars_get (secsL g.fvs g.lvs D.secs) i (by rw [secsL_length h1 h2]; exact hlt)
  rw [secsL_get h1 h2 hlt] at e
  have h' := (devG.top h).p4
  rw [e] at h'
  exact h'.assoc
/-- A sector laid back, another one. -/
theorem devG.unsec {i : Nat} {fv : Value} {lv : Option Value} {s : Sec} {D' : DevA} {g' : DevG} (h1 : g.fvs.length = D.secs.length) (h2 : g.lvs.length = D.secs.length) (hi : i < D.secs.length)
    (e1 : g'.fvs = g.fvs.set i fv) (e2 : g'.lvs = g.lvs.set i lv) (e3 : D'.secs = D.secs.set i s)
    (h : S W0 w (F * mapB .i64 g'.rm g'.kvr * mapB .i64 g'.lm g'.kv * blk g'.fb (.cells g'.fvs.toArray 44 (0, 0)) * blk b (.cells (devCells pw D' g') 73 (0, 0)) * stars ((secsL g.fvs g.lvs D.secs).set i emp) * secO fv lv s)) :
    S W0 w (F * devG b pw D' g') := by
  refine devG.of_top ?_
  rw [e1] at h ⊢
  rw [e2, e3, secsL_set _ _ _ h1 h2, stars_set _ _ _ (by rw [secsL_length h1 h2]; exact hi)]
  exact (S.unassoc h).perm
theorem devO.setWrites (h : S W0 w (F * devO b pw D)) {n : Nat} (hn : n < 18446744073709551616) : S W0 (w.setCell ⟨b, 5, none⟩ (.int .u64 (n : Int))) (F * devO b pw { D with writes := n }) := by
  obtain ⟨g, ho, h⟩ := devO.open h
  refine devO.shut (g := g) (devG.of_top ((devG.top h).set (i := 5))) ?_
  exact ⟨ho.1, ho.2.1, ho.2.2.1, ho.2.2.2.1, ho.2.2.2.2.1, hn, ho.2.2.2.2.2.2⟩
theorem devO.setReads (h : S W0 w (F * devO b pw D)) {n : Nat} (hn : n < 18446744073709551616) : S W0 (w.setCell ⟨b, 4, none⟩ (.int .u64 (n : Int))) (F * devO b pw { D with reads := n }) := by
  obtain ⟨g, ho, h⟩ := devO.open h
  refine devO.shut (g := g) (devG.of_top ((devG.top h).set (i := 4))) ?_
  exact ⟨ho.1, ho.2.1, ho.2.2.1, ho.2.2.2.1, hn, ho.2.2.2.2.2⟩
/-- A device whose one sector has turned: its map and its parts still fit. -/
theorem DevG.Ok.put {i : Nat} {s s' : Sec} {lv' : Option Value} {kv' : List (Int × Value)} {r n : Nat} (ho : g.Ok D) (hi : D.secs[i]? = some s) (hs' : s'.Ok) (hr : s'.rotten = s.rotten)
    (hkv : ∀ k : Int, kv'.lookup k = if k = (i : Int) then lv' else g.kv.lookup k) (h1 : r < 18446744073709551616) (h2 : n < 18446744073709551616) :
    ({ g with lvs := g.lvs.set i lv', kv := kv' } : DevG).Ok { secs := D.secs.set i s', reads := r, writes := n } := by
  obtain ⟨a1, a2, a3, a4, a5, a6, a7, a8⟩ := ho
  obtain ⟨hlt, rfl⟩ := List.getElem?_eq_some_iff.1 hi
  refine ⟨by simpa using a1, by simpa using a2, fun k => ?_, fun k => ?_, h1, h2, by simpa using a7, fun x hx => ?_⟩
  · simp only [hkv, a3, List.getElem?_set]
    by_cases hk : k = (i : Int)
    · subst hk
      have : i < g.lvs.length := by omega
      simp [this]
    · simp only [hk, if_false]
      by_cases h0 : 0 ≤ k
      · have : ¬ i = k.toNat := by omega
        simp [h0, this]
      · simp [h0]
  · simp only [a4, List.getElem?_set]
    by_cases h0 : 0 ≤ k
    · by_cases hk : i = k.toNat
      · rw [← hk]
        simp [hlt, hr, h0]
      · simp [hk]
    · simp [h0]
  · rcases List.mem_or_eq_of_mem_set hx with h | rfl
    · exact a8 x h
    · exact hs'
end
end Go.Proofs.Ytnkjkkbjplneeaa
