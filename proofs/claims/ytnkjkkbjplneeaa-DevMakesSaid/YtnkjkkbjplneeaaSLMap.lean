/-
  Maps of the call's own, keyed by whole numbers: what look-up, store, delete and clear do to them.
-/
import Derived.Test.YtnkjkkbjplneeaaSL
namespace Go.SL
open Go.RowKit
set_option linter.unusedSimpArgs false
set_option linter.unusedVariables false
def MapOk (kd : IntKind) (es : Array MapEntry) (clock : Nat) (kv : List (Int × Value)) : Prop :=
  es.toList.map (fun e => (e.key, e.val)) = kv.map (fun p => (Value.int kd p.1, p.2)) ∧ (kv.map (·.1)).Nodup ∧ (es.toList.map (·.born)).Pairwise (· < ·) ∧ ∀ e ∈ es.toList, e.born < clock
def mapB (kd : IntKind) (m : Nat) (kv : List (Int × Value)) : HProp := ex fun es : Array MapEntry => ex fun clock : Nat => blk m (.map es clock) * pr (MapOk kd es clock kv)
theorem S.map {W0 w : World} {F : HProp} {kd : IntKind} {m : Nat} {kv : List (Int × Value)} (h : S W0 w (F * mapB kd m kv)) :
    ∃ es clock, MapOk kd es clock kv ∧ S W0 w (F * blk m (.map es clock)) := by
  obtain ⟨es, h⟩ := S.of_ex h
  obtain ⟨clock, h⟩ := S.of_ex h
  have h' : S W0 w (F * blk m (.map es clock) * pr (MapOk kd es clock kv)) := h.perm
  obtain ⟨h1, h2⟩ := h'.of_pr
  exact ⟨es, clock, h1, h2⟩
theorem S.to_map {W0 w : World} {F : HProp} {kd : IntKind} {m : Nat} {kv : List (Int × Value)} {es : Array MapEntry} {clock : Nat} (h : S W0 w (F * blk m (.map es clock))) (ho : MapOk kd es clock kv) : S W0 w (F * mapB kd m kv) := by
  refine S.to_ex es (S.to_ex clock ?_)
  have h' : S W0 w (F * blk m (.map es clock) * pr (MapOk kd es clock kv)) := h.to_pr ho
  exact h'.perm
theorem MapOk.empty (kd : IntKind) (clock : Nat) : MapOk kd #[] clock [] := ⟨by simp, by simp, by simp, by simp⟩
theorem map_eraseIdx' {α β : Type} (f : α → β) : ∀ (l : List α) (i : Nat), (l.eraseIdx i).map f = (l.map f).eraseIdx i
  | [], _ => by simp
  | a :: l, 0 => by simp
  | a :: l, i + 1 => by simp [map_eraseIdx' f l i]
/-- The place of a key. -/
def keyAt (x : Int) : List (Int × Value) → Nat → Option (Nat × Value)
  | [], _ => none
  | p :: l, i => if x = p.1 then some (i, p.2) else keyAt x l (i + 1)
theorem findNow_int (kd : IntKind) (x : Int) : ∀ (es : List MapEntry) (kv : List (Int × Value)) (i : Nat), es.map (fun e => (e.key, e.val)) = kv.map (fun p => (Value.int kd p.1, p.2)) →
    Instr.findNow (.int kd) (.int kd x) es i = some (keyAt x kv i)
  | [], [], _, _ => rfl
  | [], _ :: _, _, h => by simp at h
  | _ :: _, [], _, h => by simp at h
  | e :: es, p :: kv, i, h => by
    simp only [List.map_cons, List.cons.injEq, Prod.mk.injEq] at h
    obtain ⟨⟨h1, h2⟩, h3⟩ := h
    have ih := findNow_int kd x es kv (i + 1) h3
    by_cases hx : x = p.1
    · subst hx; simp [Instr.findNow, Instr.sameNow, h1, keyAt, h2]
    · have hb : (x == p.1) = false := by simpa using hx
      simp [Instr.findNow, Instr.sameNow, h1, keyAt, h2, hx, hb, ih]
theorem keyAt_none {x : Int} {kv : List (Int × Value)} : ∀ i, keyAt x kv i = none ↔ kv.lookup x = none := by
  induction kv with
  | nil => intro i; simp [keyAt]
  | cons p kv ih =>
    intro i
    by_cases hx : x = p.1
    · subst hx; simp [keyAt, List.lookup]
    · have : (x == p.1) = false := by simpa using hx
      simp [keyAt, hx, List.lookup, this, ih]
theorem keyAt_some {x : Int} {kv : List (Int × Value)} : ∀ i j v, keyAt x kv i = some (j, v) → kv.lookup x = some v ∧ i ≤ j ∧ kv[j - i]? = some (x, v) := by
  induction kv with
  | nil => intro i j v h; simp [keyAt] at h
  | cons p kv ih =>
    intro i j v h
    by_cases hx : x = p.1
    · subst hx; simp [keyAt] at h; obtain ⟨rfl, rfl⟩ := h; simp [List.lookup]
    · have hb : (x == p.1) = false := by simpa using hx
      simp only [keyAt, hx, if_false] at h
      obtain ⟨h1, h2, h3⟩ := ih (i + 1) j v h
      refine ⟨by simp [List.lookup, hb, h1], by omega, ?_⟩
      rw [show j - i = (j - (i + 1)) + 1 by omega]
      simpa using h3
section
variable {P : Program} {w : World}
theorem run_checkKey_int {kd : IntKind} {k : TypeId} (hk : P.underlying k = some (.int kd)) (e : Bool) (x : Int) : (Instr.checkKey e 10000 k (.int kd x)).run P w = .ok () w := by
  rw [show (10000 : Nat) = 9999 + 1 from rfl, Instr.checkKey]
  simp [run_underlying hk]
theorem run_findKey_int {kd : IntKind} {k : TypeId} {es : Array MapEntry} {clock : Nat} {kv : List (Int × Value)} (hk : P.underlying k = some (.int kd)) (ho : MapOk kd es clock kv) (x : Int) :
    (Instr.findKey k (.int kd x) es.toList).run P w = .ok (keyAt x kv 0) w := by
  have := findNow_int kd x es.toList kv 0 ho.1
  simp [Instr.findKey, run_underlying hk, this]
theorem run_lookup_int {kd : IntKind} {t k e : TypeId} {m : Nat} {es : Array MapEntry} {clock : Nat} {kv : List (Int × Value)} {z : Value} (ht : P.underlying t = some (.map k e)) (hk : P.underlying k = some (.int kd))
    (hz : (zeroValue e).run P w = .ok z w) (hm : w.heap[m]? = some (.map es clock)) (ho : MapOk kd es clock kv) (x : Int) :
    (Instr.lookup t (.map (some m)) (.int kd x) false).run P w = .ok ((kv.lookup x).getD z) w := by
  have h1 := run_checkKey_int (P := P) (w := w) hk es.isEmpty x
  have h2 := run_findKey_int (P := P) (w := w) hk ho x
  cases h3 : keyAt x kv 0 with
  | none =>
    have := (keyAt_none 0).1 h3
    rw [h3] at h2
    simp [Instr.lookup, run_underlying ht, getObj, Sem.run, hm, h1, h2, hz, this]
  | some jv =>
    obtain ⟨j, v⟩ := jv
    have := (keyAt_some 0 j v h3).1
    rw [h3] at h2
    simp [Instr.lookup, run_underlying ht, getObj, Sem.run, hm, h1, h2, this]
end
/-- A map with a key's element stored; with a key taken out. -/
def kvSet (x : Int) (v : Value) (kv : List (Int × Value)) : List (Int × Value) := match keyAt x kv 0 with | some (i, _) => kv.set i (x, v) | none => kv ++ [(x, v)]
def kvDel (x : Int) (kv : List (Int × Value)) : List (Int × Value) := match keyAt x kv 0 with | some (i, _) => kv.eraseIdx i | none => kv
theorem lookup_set_other {x y : Int} {v : Value} (hy : y ≠ x) : ∀ {kv : List (Int × Value)} {i : Nat} {u : Value}, kv[i]? = some (x, u) → (kv.set i (x, v)).lookup y = kv.lookup y
  | [], i, u, h => by simp at h
  | p :: kv, 0, u, h => by
    simp at h
    subst h
    have : (y == x) = false := by simpa using hy
    simp [List.lookup, this]
  | p :: kv, i + 1, u, h => by
    have ih := lookup_set_other (v := v) hy (kv := kv) (i := i) (by simpa using h)
    by_cases hp : y = p.1
    · subst hp; simp [List.lookup]
    · have : (y == p.1) = false := by simpa using hp
      simp [List.lookup, this, ih]
theorem keyAt_first {x : Int} : ∀ {kv : List (Int × Value)} {i j : Nat} {u : Value} (v : Value), keyAt x kv i = some (j, u) → (kv.set (j - i) (x, v)).lookup x = some v
  | [], i, j, u, v, h => by simp [keyAt] at h
  | p :: kv, i, j, u, v, h => by
    by_cases hx : x = p.1
    · subst hx; simp [keyAt] at h; obtain ⟨rfl, rfl⟩ := h; simp [List.lookup]
    · have hb : (x == p.1) = false := by simpa using hx
      simp only [keyAt, hx, if_false] at h
      have h2 := (keyAt_some _ _ _ h).2.1
      have ih := keyAt_first v h
      rw [show j - i = (j - (i + 1)) + 1 by omega]
      simp [List.lookup, hb, ih]
theorem lookup_kvSet (x : Int) (v : Value) (kv : List (Int × Value)) (y : Int) : (kvSet x v kv).lookup y = if y = x then some v else kv.lookup y := by
  unfold kvSet
  cases h : keyAt x kv 0 with
  | none =>
    have h1 := (keyAt_none 0).1 h
    simp only
    by_cases hy : y = x
    · subst hy; simp [List.lookup_append, h1, List.lookup]
    · have : (y == x) = false := by simpa using hy
      simp [List.lookup_append, List.lookup, this, hy]
  | some jv =>
    obtain ⟨j, u⟩ := jv
    obtain ⟨h1, h2, h3⟩ := keyAt_some 0 j u h
    have h4 := keyAt_first v h
    simp only [Nat.sub_zero] at h3 h4
    simp only
    by_cases hy : y = x
    · subst hy; simpa using h4
    · have := lookup_set_other (v := v) hy h3
      simpa [hy] using this
theorem nodup_lookup {kv : List (Int × Value)} (hn : (kv.map (·.1)).Nodup) {x : Int} {v : Value} : (x, v) ∈ kv ↔ kv.lookup x = some v := by
  induction kv with
  | nil => simp
  | cons p kv ih =>
    simp only [List.map_cons, List.nodup_cons] at hn
    have ih := ih hn.2
    by_cases hx : x = p.1
    · subst hx
      simp only [List.mem_cons, List.lookup, beq_self_eq_true, Option.some.injEq]
      constructor
      · rintro (h | h)
        · rw [← h]
        · exact absurd (List.mem_map.2 ⟨_, h, rfl⟩) hn.1
      · intro h; left; rw [← h]
    · have hb : (x == p.1) = false := by simpa using hx
      simp only [List.mem_cons, List.lookup, hb, ← ih]
      constructor
      · rintro (h | h)
        · exact absurd (by rw [← h]) hx
        · exact h
      · exact .inr
theorem nodup_kvSet {x : Int} {v : Value} {kv : List (Int × Value)} (hn : (kv.map (·.1)).Nodup) : ((kvSet x v kv).map (·.1)).Nodup := by
  unfold kvSet
  cases h : keyAt x kv 0 with
  | none =>
    have h1 := (keyAt_none 0).1 h
    simp only [List.map_append, List.map_cons, List.map_nil]
    rw [List.nodup_append]
    refine ⟨hn, by simp, ?_⟩
    intro a ha b hb
    simp at hb
    subst hb
    rintro rfl
    obtain ⟨⟨a', u⟩, hp, rfl⟩ := List.mem_map.1 ha
    have := (nodup_lookup hn).1 hp
    rw [h1] at this
    cases this
  | some jv =>
    obtain ⟨j, u⟩ := jv
    obtain ⟨h1, h2, h3⟩ := keyAt_some 0 j u h
    simp only [Nat.sub_zero] at h3
    have e : ((kv.set j (x, v)).map (·.1)) = kv.map (·.1) := by
      rw [List.map_set]
      have : (kv.map (·.1))[j]? = some x := by simp [h3]
      obtain ⟨hj, hj'⟩ := List.getElem?_eq_some_iff.1 this
      conv => lhs; rw [show ((x, v) : Int × Value).1 = (kv.map (·.1))[j] from hj'.symm]
      exact List.set_getElem_self hj
    simp only [e]
    exact hn
theorem kvDel_sub (x : Int) (kv : List (Int × Value)) : (kvDel x kv).Sublist kv := by
  unfold kvDel
  split
  · exact List.eraseIdx_sublist _ _
  · exact List.Sublist.refl _
theorem nodup_kvDel {x : Int} {kv : List (Int × Value)} (hn : (kv.map (·.1)).Nodup) : ((kvDel x kv).map (·.1)).Nodup := ((kvDel_sub x kv).map _).nodup hn
theorem lookup_kvDel (x : Int) (kv : List (Int × Value)) (hn : (kv.map (·.1)).Nodup) (y : Int) : (kvDel x kv).lookup y = if y = x then none else kv.lookup y := by
  have hd := nodup_kvDel (x := x) hn
  apply Option.ext
  intro v
  rw [← nodup_lookup hd]
  unfold kvDel
  cases h : keyAt x kv 0 with
  | none =>
    have h1 := (keyAt_none 0).1 h
    simp only
    rw [nodup_lookup hn]
    by_cases hy : y = x
    · subst hy; simp [h1]
    · simp [hy]
  | some jv =>
    obtain ⟨j, u⟩ := jv
    obtain ⟨h1, h2, h3⟩ := keyAt_some 0 j u h
    simp only [Nat.sub_zero] at h3
    simp only
    by_cases hy : y = x
    · subst hy
      simp only [if_true]
      constructor
      · intro hm
        exfalso
        obtain ⟨i, hi⟩ := List.getElem?_of_mem hm
        rw [List.getElem?_eraseIdx] at hi
        have key : ∀ i : Nat, kv[i]? = some (y, v) → i = j := by
          intro i hi
          have a1 : (kv.map (·.1))[i]? = some y := by simp [hi]
          have a2 : (kv.map (·.1))[j]? = some y := by simp [h3]
          obtain ⟨b1, b2⟩ := List.getElem?_eq_some_iff.1 a1
          obtain ⟨c1, c2⟩ := List.getElem?_eq_some_iff.1 a2
          exact (List.getElem_inj hn).1 (b2.trans c2.symm)
        split at hi
        · have := key _ hi; omega
        · have := key _ hi; omega
      · simp
    · simp only [hy, if_false]
      rw [← nodup_lookup hn]
      constructor
      · exact fun hm => (List.eraseIdx_sublist _ _).mem hm
      · intro hm
        obtain ⟨i, hi⟩ := List.getElem?_of_mem hm
        have hij : i ≠ j := by rintro rfl; rw [h3] at hi; simp at hi; exact hy hi.1.symm
        refine List.mem_of_getElem? (i := if i < j then i else i - 1) ?_
        rw [List.getElem?_eraseIdx]
        by_cases hlt : i < j
        · simp only [hlt, if_true]; exact hi
        · simp only [hlt, if_false]; rw [if_neg (by omega), show i - 1 + 1 = i by omega]; exact hi
section
variable {P : Program} {w : World}
theorem sameBits_int (kd : IntKind) (x : Int) : Instr.sameBits 10000 (.int kd x) (.int kd x) = true := by
  rw [show (10000 : Nat) = 9999 + 1 from rfl, Instr.sameBits]
  simp
theorem MapOk.set {kd : IntKind} {es : Array MapEntry} {clock : Nat} {kv : List (Int × Value)} (ho : MapOk kd es clock kv) {x : Int} {j : Nat} {u v : Value} (hk : keyAt x kv 0 = some (j, u)) :
    MapOk kd (es.modify j fun e => { e with key := .int kd x, val := v }) clock (kvSet x v kv) := by
  obtain ⟨h1, h2, h3, h4⟩ := ho
  have hb : ((es.modify j fun e => { e with key := .int kd x, val := v }).toList).map (·.born) = es.toList.map (·.born) := by
    rw [Array.toList_modify]
    apply List.ext_getElem?
    intro i
    simp only [List.getElem?_map, List.getElem?_modify]
    cases es.toList[i]? with
    | none => simp
    | some e => by_cases hij : j = i <;> simp [hij]
  refine ⟨?_, nodup_kvSet h2, by rw [hb]; exact h3, ?_⟩
  · rw [Array.toList_modify]
    have e1 : kvSet x v kv = kv.set j (x, v) := by unfold kvSet; rw [hk]
    rw [e1, List.map_set, ← h1]
    apply List.ext_getElem?
    intro i
    simp only [List.getElem?_map, List.getElem?_modify, List.getElem?_set, List.length_map]
    by_cases hij : j = i
    · subst hij
      simp only [if_true]
      cases h : es.toList[j]? with
      | none => 
        have : es.toList.length ≤ j := List.getElem?_eq_none_iff.1 h
        simp [Nat.not_lt.2 (by simpa using this)]
      | some e =>
        have : j < es.toList.length := (List.getElem?_eq_some_iff.1 h).1
        have : j < es.size := by simpa using this
        simp [this]
    · simp [hij]
  · intro e he
    have : e.born ∈ ((es.modify j fun e => { e with key := .int kd x, val := v }).toList).map (·.born) := List.mem_map.2 ⟨e, he, rfl⟩
    rw [hb] at this
    obtain ⟨e', he', hbe⟩ := List.mem_map.1 this
    rw [← hbe]
    exact h4 e' he'
theorem MapOk.push {kd : IntKind} {es : Array MapEntry} {clock : Nat} {kv : List (Int × Value)} (ho : MapOk kd es clock kv) {x : Int} {v : Value} (hk : keyAt x kv 0 = none) :
    MapOk kd (es.push { key := .int kd x, val := v, born := clock }) (clock + 1) (kvSet x v kv) := by
  obtain ⟨h1, h2, h3, h4⟩ := ho
  have e1 : kvSet x v kv = kv ++ [(x, v)] := by unfold kvSet; rw [hk]
  refine ⟨?_, nodup_kvSet h2, ?_, ?_⟩
  · rw [e1]; simp [h1]
  · simp only [Array.toList_push, List.map_append, List.map_cons, List.map_nil]
    rw [List.pairwise_append]
    refine ⟨h3, by simp, ?_⟩
    intro a ha b hb
    simp at hb
    subst hb
    obtain ⟨e, he, rfl⟩ := List.mem_map.1 ha
    exact h4 e he
  · intro e he
    simp only [Array.toList_push, List.mem_append, List.mem_singleton] at he
    rcases he with he | rfl
    · have := h4 e he; omega
    · simp
theorem MapOk.del {kd : IntKind} {es : Array MapEntry} {clock : Nat} {kv : List (Int × Value)} (ho : MapOk kd es clock kv) {x : Int} {j : Nat} {u : Value} (hk : keyAt x kv 0 = some (j, u)) :
    MapOk kd (es.eraseIdxIfInBounds j) clock (kvDel x kv) := by
  obtain ⟨h1, h2, h3, h4⟩ := ho
  have e1 : kvDel x kv = kv.eraseIdx j := by unfold kvDel; rw [hk]
  have e2 : (es.eraseIdxIfInBounds j).toList = es.toList.eraseIdx j := by
    by_cases hj : j < es.size
    · simp [Array.eraseIdxIfInBounds, hj]
    · simp [Array.eraseIdxIfInBounds, hj, List.eraseIdx_of_length_le (l := es.toList) (by simpa using hj)]
  have h2' := nodup_kvDel (x := x) h2
  refine ⟨?_, h2', ?_, ?_⟩
  · rw [e1, e2, map_eraseIdx', h1, map_eraseIdx']
  · rw [e2, map_eraseIdx']; exact h3.sublist (List.eraseIdx_sublist _ _)
  · intro e he
    rw [e2] at he
    exact h4 e ((List.eraseIdx_sublist _ _).mem he)
theorem run_mapUpdate_int {kd : IntKind} {t k e : TypeId} {m : Nat} {es : Array MapEntry} {clock : Nat} {kv : List (Int × Value)} (ht : P.underlying t = some (.map k e)) (hk : P.underlying k = some (.int kd))
    (hm : w.heap[m]? = some (.map es clock)) (ho : MapOk kd es clock kv) (x : Int) (v : Value) :
    ∃ es' clock', MapOk kd es' clock' (kvSet x v kv) ∧ (Instr.mapUpdate t (.map (some m)) (.int kd x) v).run P w = .ok () { w with heap := w.heap.setIfInBounds m (.map es' clock') } := by
  have h1 := run_checkKey_int (P := P) (w := w) hk false x
  have h2 := run_findKey_int (P := P) (w := w) hk ho x
  cases h3 : keyAt x kv 0 with
  | none =>
    rw [h3] at h2
    refine ⟨_, _, ho.push h3, ?_⟩
    simp [Instr.mapUpdate, run_underlying ht, getObj, setObj, Sem.run, hm, h1, h2]
  | some jv =>
    obtain ⟨j, u⟩ := jv
    rw [h3] at h2
    obtain ⟨k1, k2, k3⟩ := keyAt_some 0 j u h3
    simp only [Nat.sub_zero] at k3
    have hkey : ((es[j]?).map (·.key)).getD (.int kd x) = .int kd x := by
      have h5 : (es.toList.map (fun e => (e.key, e.val)))[j]? = some (.int kd x, u) := by rw [ho.1]; simp [k3]
      simp only [List.getElem?_map, Array.getElem?_toList] at h5
      cases h6 : es[j]? with
      | none => simp
      | some e => simp [h6] at h5; simp [h5.1]
    refine ⟨_, _, ho.set (v := v) h3, ?_⟩
    simp [Instr.mapUpdate, run_underlying ht, getObj, setObj, Sem.run, hm, h1, h2, hkey, Instr.keyThatStays, sameBits_int]
theorem run_delete_int {kd : IntKind} {t k e ty : TypeId} {ats : Array TypeId} {m : Nat} {es : Array MapEntry} {clock : Nat} {kv : List (Int × Value)} (hat : ats[0]? = some t) (ht : P.underlying t = some (.map k e)) (hk : P.underlying k = some (.int kd))
    (hm : w.heap[m]? = some (.map es clock)) (ho : MapOk kd es clock kv) (x : Int) :
    ∃ es' clock', MapOk kd es' clock' (kvDel x kv) ∧ (Builtin.delete_ ats ty #[.map (some m), .int kd x]).run P w = .ok (.tuple #[]) { w with heap := w.heap.setIfInBounds m (.map es' clock') } := by
  have h1 := run_checkKey_int (P := P) (w := w) hk es.isEmpty x
  have h2 := run_findKey_int (P := P) (w := w) hk ho x
  cases h3 : keyAt x kv 0 with
  | none =>
    rw [h3] at h2
    refine ⟨es, clock, by unfold kvDel; rw [h3]; exact ho, ?_⟩
    simp [Builtin.delete_, hat, run_underlying ht, getObj, setObj, Sem.run, hm, h1, h2]
  | some jv =>
    obtain ⟨j, u⟩ := jv
    rw [h3] at h2
    refine ⟨_, _, ho.del h3, ?_⟩
    simp [Builtin.delete_, hat, run_underlying ht, getObj, setObj, Sem.run, hm, h1, h2]
theorem run_clear_map {t ty : TypeId} {d : TypeDesc} {ats : Array TypeId} {m : Nat} {es : Array MapEntry} {clock : Nat} (hat : ats[0]? = some t) (ht : P.underlying t = some d) (hm : w.heap[m]? = some (.map es clock)) :
    (Builtin.clear_ ats ty #[.map (some m)]).run P w = .ok (.tuple #[]) { w with heap := w.heap.setIfInBounds m (.map #[] clock) } := by
  simp [Builtin.clear_, hat, run_underlying ht, getObj, setObj, Sem.run, hm]
theorem run_len_map {kd : IntKind} {t k e ty : TypeId} {ats : Array TypeId} {m : Nat} {es : Array MapEntry} {clock : Nat} {kv : List (Int × Value)} (hat : ats[0]? = some t) (ht : P.underlying t = some (.map k e)) (hm : w.heap[m]? = some (.map es clock)) (ho : MapOk kd es clock kv) :
    (Builtin.len_ ats ty #[.map (some m)]).run P w = .ok (.int .i64 kv.length) w := by
  have : es.size = kv.length := by have := congrArg List.length ho.1; simpa using this
  simp [Builtin.len_, hat, run_underlying ht, getObj, Sem.run, hm, goInt, this]
end
end Go.SL
