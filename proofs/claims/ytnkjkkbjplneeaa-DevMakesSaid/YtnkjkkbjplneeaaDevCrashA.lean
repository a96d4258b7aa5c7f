/-
  A device opened at one of its parts, and shut again.
-/
import Derived.Test.YtnkjkkbjplneeaaDevLoose
namespace Go.Proofs.Ytnkjkkbjplneeaa
open Go.RowKit Go.SL
set_option maxRecDepth 100000
set_option linter.unusedSimpArgs false
set_option linter.unusedVariables false
section
variable {W0 w : World} {F : HProp} {b pw : Nat} {D : DevA} {g : DevG}
theorem DevG.Ok.rot {i : Nat} {s s' : Sec} {kvr' : List (Int × Value)} (ho : g.Ok D) (hi : D.secs[i]? = some s) (hs' : s'.Ok)
    (hk : ∀ k : Int, kvr'.lookup k = if k = (i : Int) then (if s'.rotten = true then some (.int .i64 1) else none) else g.kvr.lookup k) :
    ({ g with kvr := kvr' } : DevG).Ok { D with secs := D.secs.set i s' } := by
  obtain ⟨a1, a2, a3, a4, a5, a6, a7, a8⟩ := ho
  obtain ⟨hlt, rfl⟩ := List.getElem?_eq_some_iff.1 hi
  refine ⟨by simpa using a1, by simpa using a2, a3, fun k => ?_, a5, a6, by simpa using a7, fun x hx => ?_⟩
  · simp only [hk, a4, List.getElem?_set]
    by_cases hki : k = (i : Int)
    · subst hki
      simp [hlt]
    · simp only [hki, if_false]
      by_cases h0 : 0 ≤ k
      · have : ¬ i = k.toNat := by omega
        simp [this]
      · simp [h0]
  · rcases List.mem_or_eq_of_mem_set hx with h | rfl
    · exact a8 x h
    · exact hs'
/-- What is fixed of a sector, to be read. -/
theorem devO.fixedRead (h : S W0 w (F * devO b pw D)) {i : Nat} {s : Sec} (hi : D.secs[i]? = some s) :
    ∃ fb fv, w.cell? ⟨b, 1, none⟩ = some (.slice (some ⟨fb, 0, none⟩) D.secs.length D.secs.length) ∧ w.cell? ⟨fb, i, none⟩ = some fv ∧ Reads w 1 fv s.fixed.length (u8s s.fixed) := by
  obtain ⟨g, ho, hs⟩ := devO.open h
  obtain ⟨c0, c1, _⟩ := devG.cells hs
  obtain ⟨fv, lv, e1, e2, k⟩ := devG.sec hs ho hi
  unfold secO at k
  refine ⟨g.fb, fv, c1, ?_, ?_⟩
  · rw [cell_at k.p3.heap]; simpa using e1
  · have k2 := k.assoc.left
    unfold bytesV at k2
    exact k2.reads
/-- .. to be written on, where it lies. -/
theorem devO.fixedOpen (h : S W0 w (F * devO b pw D)) {i : Nat} {s : Sec} (hi : D.secs[i]? = some s) :
    ∃ fb fv R, w.cell? ⟨b, 1, none⟩ = some (.slice (some ⟨fb, 0, none⟩) D.secs.length D.secs.length) ∧ w.cell? ⟨fb, i, none⟩ = some fv ∧ S W0 w (F * R * bytesV fv 5 s.fixed) ∧
      ∀ (w' : World) (F' : HProp) (l : List UInt8), l.length = 64 → S W0 w' (F' * R * bytesV fv 5 l) → S W0 w' (F' * devO b pw { D with secs := D.secs.set i { s with fixed := l } }) := by
  obtain ⟨g, ho, hs⟩ := devO.open h
  obtain ⟨c0, c1, _⟩ := devG.cells hs
  obtain ⟨fv, lv, e1, e2, k⟩ := devG.sec hs ho hi
  have hlt := (List.getElem?_eq_some_iff.1 hi).1
  have c := cell_at (i := i) k.p3.heap
  unfold secO at k
  refine ⟨g.fb, fv, mapB .i64 g.rm g.kvr * mapB .i64 g.lm g.kv * blk g.fb (.cells g.fvs.toArray 44 (0, 0)) * blk b (.cells (devCells pw D g) 73 (0, 0)) * stars ((secsL g.fvs g.lvs D.secs).set i emp) * looseO lv s.loose, c1, by rw [c]; simpa using e1, k.assoc.perm, ?_⟩
  intro w' F' l hl k'
  have hok : g.Ok { D with secs := D.secs.set i { s with fixed := l } } := by
    have := DevG.Ok.put (lv' := lv) (kv' := g.kv) ho hi (s' := { s with fixed := l }) ⟨hl, (ho.2.2.2.2.2.2.2 s (List.mem_of_getElem? hi)).2⟩ rfl (fun k => by
      split
      · rename_i hk; subst hk
        have := ho.2.2.1 (i : Int)
        simpa [e2] using this
      · rfl) ho.2.2.2.2.1 ho.2.2.2.2.2.1
    have e : ({ g with lvs := g.lvs.set i lv, kv := g.kv } : DevG) = g := by
      have : g.lvs.set i lv = g.lvs := by
        obtain ⟨hl2, rfl⟩ := List.getElem?_eq_some_iff.1 e2
        simp
      rw [this]
    rw [e] at this
    exact this
  refine devO.shut (g := g) ?_ hok
  refine devG.unsec (D := D) (g := g) (i := i) (fv := fv) (lv := lv) (s := { s with fixed := l }) ho.1 ho.2.1 hlt ?_ ?_ rfl ?_
  · obtain ⟨hl2, rfl⟩ := List.getElem?_eq_some_iff.1 e1
    simp
  · obtain ⟨hl2, rfl⟩ := List.getElem?_eq_some_iff.1 e2
    simp
  · have e : devCells pw { D with secs := D.secs.set i { s with fixed := l } } g = devCells pw D g := by simp [devCells]
    rw [e]
    unfold secO
    exact k'.perm
/-- Whether a sector is rotten, to be turned. -/
theorem devO.rotOpen (h : S W0 w (F * devO b pw D)) {i : Nat} {s : Sec} (hi : D.secs[i]? = some s) :
    ∃ rm kvr R, w.cell? ⟨b, 3, none⟩ = some (.map (some rm)) ∧ (kvr.map (·.1)).Nodup ∧ S W0 w (F * R * mapB .i64 rm kvr) ∧
      (∀ (w' : World) (F' : HProp), S W0 w' (F' * R * mapB .i64 rm (kvSet (i : Int) (.int .i64 1) kvr)) → S W0 w' (F' * devO b pw { D with secs := D.secs.set i { s with rotten := true } })) ∧
      (∀ (w' : World) (F' : HProp), S W0 w' (F' * R * mapB .i64 rm (kvDel (i : Int) kvr)) → S W0 w' (F' * devO b pw { D with secs := D.secs.set i { s with rotten := false } })) := by
  obtain ⟨g, ho, hs⟩ := devO.open h
  obtain ⟨c0, c1, c2, c3, _⟩ := devG.cells hs
  have hlt := (List.getElem?_eq_some_iff.1 hi).1
  have k := devG.top hs
  have hsok := ho.2.2.2.2.2.2.2 s (List.mem_of_getElem? hi)
  obtain ⟨es, clock, hmo, _⟩ := S.map k.p3
  have hsecs : ∀ r : Bool, secsL g.fvs g.lvs (D.secs.set i { s with rotten := r }) = secsL g.fvs g.lvs D.secs := by
    intro r
    obtain ⟨h1, h2, _⟩ := ho
    have e1 : g.fvs.set i (g.fvs[i]'(by omega)) = g.fvs := by simp
    have e2 : g.lvs.set i (g.lvs[i]'(by omega)) = g.lvs := by simp
    have := secsL_set g.fvs g.lvs D.secs h1 h2 i (g.fvs[i]'(by omega)) (g.lvs[i]'(by omega)) { s with rotten := r }
    rw [e1, e2] at this
    rw [this]
    obtain ⟨_, rfl⟩ := List.getElem?_eq_some_iff.1 hi
    apply List.ext_getElem?
    intro j
    rw [List.getElem?_set]
    split
    · rename_i hij; subst hij
      have hl : i < (secsL g.fvs g.lvs D.secs).length := by rw [secsL_length h1 h2]; exact hlt
      rw [if_pos hl, List.getElem?_eq_getElem hl, secsL_get h1 h2 hlt]
      rfl
    · rfl
  refine ⟨g.rm, g.kvr, stars (secsL g.fvs g.lvs D.secs) * mapB .i64 g.lm g.kv * blk g.fb (.cells g.fvs.toArray 44 (0, 0)) * blk b (.cells (devCells pw D g) 73 (0, 0)), c3, hmo.2.1, k.perm, ?_, ?_⟩
  · intro w' F' k'
    refine devO.shut (g := { g with kvr := kvSet (i : Int) (.int .i64 1) g.kvr }) (devG.of_top ?_) (ho.rot hi (s' := { s with rotten := true }) hsok fun k => by simp [lookup_kvSet])
    have e : devCells pw { D with secs := D.secs.set i { s with rotten := true } } { g with kvr := kvSet (i : Int) (.int .i64 1) g.kvr } = devCells pw D g := by simp [devCells]
    rw [e]
    show S W0 w' (F' * stars (secsL g.fvs g.lvs (D.secs.set i { s with rotten := true })) * mapB .i64 g.rm (kvSet (i : Int) (.int .i64 1) g.kvr) * mapB .i64 g.lm g.kv * blk g.fb (.cells g.fvs.toArray 44 (0, 0)) * blk b (.cells (devCells pw D g) 73 (0, 0)))
    rw [hsecs]
    exact k'.perm
  · intro w' F' k'
    refine devO.shut (g := { g with kvr := kvDel (i : Int) g.kvr }) (devG.of_top ?_) (ho.rot hi (s' := { s with rotten := false }) hsok fun k => by simp [lookup_kvDel _ _ hmo.2.1])
    have e : devCells pw { D with secs := D.secs.set i { s with rotten := false } } { g with kvr := kvDel (i : Int) g.kvr } = devCells pw D g := by simp [devCells]
    rw [e]
    show S W0 w' (F' * stars (secsL g.fvs g.lvs (D.secs.set i { s with rotten := false })) * mapB .i64 g.rm (kvDel (i : Int) g.kvr) * mapB .i64 g.lm g.kv * blk g.fb (.cells g.fvs.toArray 44 (0, 0)) * blk b (.cells (devCells pw D g) 73 (0, 0)))
    rw [hsecs]
    exact k'.perm
/-- A loose write, to be read. -/
theorem devO.looseRead (h : S W0 w (F * devO b pw D)) {i : Nat} {s : Sec} (hi : D.secs[i]? = some s) {j : Nat} {l : List UInt8} (hj : s.loose[j]? = some l) :
    ∃ lm qb m u, w.cell? ⟨b, 2, none⟩ = some (.map (some lm)) ∧ (Instr.lookup 69 (.map (some lm)) (.int .i64 i) false).run Try.prog w = .ok (.slice (some ⟨qb, 0, none⟩) s.loose.length m) w ∧
      w.cell? ⟨qb, j, none⟩ = some u ∧ Reads w 1 u l.length (u8s l) := by
  obtain ⟨g, ho, hs⟩ := devO.open h
  obtain ⟨c0, c1, c2, _⟩ := devG.cells hs
  obtain ⟨fv, lv, e1, e2, k⟩ := devG.sec hs ho hi
  have hkv := ho.2.2.1 (i : Int)
  simp [e2] at hkv
  obtain ⟨es, clock, hmo, k2⟩ := S.map k.p4
  have hlk := run_lookup_dev k2.heap hmo (i : Int) hkv
  have hjl := (List.getElem?_eq_some_iff.1 hj).1
  unfold secO at k
  cases hlv : lv with
  | none =>
    rw [hlv] at k
    unfold looseO at k
    obtain ⟨h0, _⟩ := S.of_pr k.assoc
    rw [h0] at hjl; simp at hjl
  | some v =>
    rw [hlv] at k hlk
    unfold looseO at k
    obtain ⟨hne, k3⟩ := S.of_pr k.assoc.assoc
    obtain ⟨vs, hvl, k4⟩ := rowsO.open k3
    rcases S.vec k4.p1 with ⟨_, h0, _⟩ | ⟨qb, m, spare, rfl, q1, q2, q3, q4, k5⟩
    · omega
    · refine ⟨g.lm, qb, m, vs[j]'(by omega), c2, hlk, ?_, ?_⟩
      · rw [cell_at k5.heap]
        simp [List.getElem?_append_left (show j < vs.length by omega), show j < vs.length by omega]
      · have e3 := stars_get (List.zipWith (fun x l => bytesV x 5 l) vs s.loose) j (by simp; omega)
        simp only [List.getElem_zipWith] at e3
        rw [e3] at k4
        obtain ⟨_, rfl⟩ := List.getElem?_eq_some_iff.1 hj
        have k6 := k4.assoc
        unfold bytesV at k6
        exact k6.reads
end
namespace DevA
def base (s : Sec) : Sec := ⟨s.fixed, [], s.rotten⟩
def fateStep (D : DevA) (x : Int × Int) (k : Int) (X : List Sec) : List Sec :=
  if 0 < k then X.set x.1.toNat ⟨((D.secs[x.1.toNat]?).bind fun s => s.loose[k.toNat - 1]?).getD [], [], false⟩ else X
def fatesN (D : DevA) (fates : List Int) : Nat → List Sec
  | 0 => D.secs.map base
  | n + 1 => match D.looseL[n]?, fates[n]? with
    | some x, some k => D.fateStep x k (D.fatesN fates n)
    | _, _ => D.fatesN fates n
theorem fatesN_succ {D : DevA} {fates : List Int} {n : Nat} {x : Int × Int} {k : Int} (hx : D.looseL[n]? = some x) (hk : fates[n]? = some k) : D.fatesN fates (n + 1) = D.fateStep x k (D.fatesN fates n) := by
  rw [fatesN]; simp [hx, hk]
theorem fatesN_length (D : DevA) (fates : List Int) : ∀ n, (D.fatesN fates n).length = D.secs.length
  | 0 => by simp [fatesN]
  | n + 1 => by
    rw [fatesN]
    split
    · unfold fateStep; split
      · rw [List.length_set]; exact D.fatesN_length fates n
      · exact D.fatesN_length fates n
    · exact D.fatesN_length fates n
theorem fatesN_loose (D : DevA) (fates : List Int) : ∀ n, ∀ s ∈ D.fatesN fates n, s.loose = []
  | 0 => by
    intro s hs
    obtain ⟨s', _, rfl⟩ := List.mem_map.1 hs
    rfl
  | n + 1 => by
    intro s hs
    rw [fatesN] at hs
    split at hs
    · unfold fateStep at hs; split at hs
      · rcases List.mem_or_eq_of_mem_set hs with h | rfl
        · exact D.fatesN_loose fates n s h
        · rfl
      · exact D.fatesN_loose fates n s hs
    · exact D.fatesN_loose fates n s hs
theorem looseL_at {D : DevA} {n : Nat} {x : Int × Int} (hx : D.looseL[n]? = some x) : ∃ (i : Nat) (s : Sec), D.secs[i]? = some s ∧ s.loose ≠ [] ∧ x = ((i : Int), (s.loose.length : Int)) := by
  obtain ⟨i, s, _, h⟩ := mem_looseN.1 (List.mem_of_getElem? hx)
  exact ⟨i, s, h⟩
def fateAt (D : DevA) (fates : List Int) (j : Nat) : Bool := match D.looseL[j]?, fates[j]? with
  | some x, some k => decide (0 ≤ k) && decide (k ≤ x.2)
  | _, _ => true
def fateOk (D : DevA) (fates : List Int) (n : Nat) : Bool := (List.range n).all (D.fateAt fates)
theorem fateOk_succ (D : DevA) (fates : List Int) (n : Nat) : D.fateOk fates (n + 1) = (D.fateOk fates n && D.fateAt fates n) := by simp [fateOk, List.range_succ]
theorem fateOk_at {D : DevA} {fates : List Int} {n j : Nat} (h : D.fateOk fates n = true) (hj : j < n) : D.fateAt fates j = true := by
  unfold fateOk at h
  rw [List.all_eq_true] at h
  exact h j (List.mem_range.2 hj)
theorem fateOk_not {D : DevA} {fates : List Int} {n j : Nat} (h : D.fateAt fates j = false) (hj : j < n) : D.fateOk fates n = false := by
  cases hh : D.fateOk fates n with
  | false => rfl
  | true => rw [fateOk_at hh hj] at h; cases h
def crashE (D : DevA) (fates : List Int) : Int := if D.looseL.length < fates.length then 7 else if D.fateOk fates fates.length then 0 else 3
def crashD (D : DevA) (fates : List Int) : DevA := ⟨D.fatesN fates fates.length, 0, 0⟩
end DevA
end Go.Proofs.Ytnkjkkbjplneeaa
