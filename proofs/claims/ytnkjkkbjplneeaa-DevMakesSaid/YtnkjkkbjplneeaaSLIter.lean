/-
  A range over a map of the call's own that stays as it is: which entries have come, in whatever order.
-/
import Derived.Test.YtnkjkkbjplneeaaSLMap
namespace Go.SL
open Go.RowKit
set_option linter.unusedSimpArgs false
set_option linter.unusedVariables false
/-- The entries that have come. -/
def IterOk (kd : IntKind) (es : Array MapEntry) (seen : Array Nat) (done : List (Int × Value)) : Prop :=
  ∃ des : List MapEntry, (∀ e ∈ des, e ∈ es.toList) ∧ (des.map (·.born)).Nodup ∧ seen.toList = des.map (·.born) ∧ des.map (fun e => (e.key, e.val)) = done.map (fun p => (Value.int kd p.1, p.2))
def rangeO (kd : IntKind) (it m : Nat) (kv done : List (Int × Value)) : HProp := ex fun es : Array MapEntry => ex fun clock : Nat => ex fun seen : Array Nat =>
  blk m (.map es clock) * blk it (.mapIter (some m) clock seen clock) * pr (MapOk kd es clock kv ∧ IterOk kd es seen done)
theorem S.range {W0 w : World} {F : HProp} {kd : IntKind} {it m : Nat} {kv done : List (Int × Value)} (h : S W0 w (F * rangeO kd it m kv done)) :
    ∃ es clock seen, MapOk kd es clock kv ∧ IterOk kd es seen done ∧ S W0 w (F * blk m (.map es clock) * blk it (.mapIter (some m) clock seen clock)) := by
  obtain ⟨es, h⟩ := S.of_ex h
  obtain ⟨clock, h⟩ := S.of_ex h
  obtain ⟨seen, h⟩ := S.of_ex h
  have h' : S W0 w (F * blk m (.map es clock) * blk it (.mapIter (some m) clock seen clock) * pr (MapOk kd es clock kv ∧ IterOk kd es seen done)) := h.perm
  obtain ⟨h1, h2⟩ := h'.of_pr
  exact ⟨es, clock, seen, h1.1, h1.2, h2⟩
theorem S.to_range {W0 w : World} {F : HProp} {kd : IntKind} {it m : Nat} {kv done : List (Int × Value)} {es : Array MapEntry} {clock : Nat} {seen : Array Nat}
    (h : S W0 w (F * blk m (.map es clock) * blk it (.mapIter (some m) clock seen clock))) (ho : MapOk kd es clock kv) (hi : IterOk kd es seen done) : S W0 w (F * rangeO kd it m kv done) := by
  refine S.to_ex es (S.to_ex clock (S.to_ex seen ?_))
  have h' : S W0 w (F * blk m (.map es clock) * blk it (.mapIter (some m) clock seen clock) * pr (MapOk kd es clock kv ∧ IterOk kd es seen done)) := h.to_pr ⟨ho, hi⟩
  exact h'.perm
theorem S.range_map {W0 w : World} {F : HProp} {kd : IntKind} {it m : Nat} {kv done : List (Int × Value)} (h : S W0 w (F * rangeO kd it m kv done)) : S W0 w (F * mapB kd m kv) := by
  obtain ⟨es, clock, seen, h1, h2, h3⟩ := h.range
  exact h3.left.to_map h1
/-- How many entries are to come. -/
def iterLeft (it n : Nat) (w : World) : Nat := match w.heap[it]? with | some (.mapIter _ _ seen _) => n - seen.size | _ => 0
theorem S.left_of {W0 w : World} {F : HProp} {kd : IntKind} {it m n : Nat} {kv done : List (Int × Value)} (h : S W0 w (F * rangeO kd it m kv done)) : iterLeft it n w = n - done.length := by
  obtain ⟨es, clock, seen, h1, ⟨des, h2, h3, h4, h5⟩, h6⟩ := h.range
  simp only [iterLeft, h6.heap]
  have e1 : seen.size = des.length := by have := congrArg List.length h4; simpa using this
  have e2 : des.length = done.length := by have := congrArg List.length h5; simpa using this
  omega
theorem IterOk.sub {kd : IntKind} {es : Array MapEntry} {clock : Nat} {seen : Array Nat} {kv done : List (Int × Value)} (ho : MapOk kd es clock kv) (hi : IterOk kd es seen done) : ∀ p ∈ done, p ∈ kv := by
  obtain ⟨des, h2, h3, h4, h5⟩ := hi
  intro p hp
  have hm : ((Value.int kd p.1, p.2) : Value × Value) ∈ done.map (fun p => (Value.int kd p.1, p.2)) := List.mem_map.2 ⟨p, hp, rfl⟩
  rw [← h5] at hm
  obtain ⟨e, he, hep⟩ := List.mem_map.1 hm
  have hm2 : ((Value.int kd p.1, p.2) : Value × Value) ∈ es.toList.map (fun e => (e.key, e.val)) := List.mem_map.2 ⟨e, h2 e he, hep⟩
  rw [ho.1] at hm2
  obtain ⟨q, hq, hqe⟩ := List.mem_map.1 hm2
  simp only [Prod.mk.injEq, Value.int.injEq, true_and] at hqe
  have : q = p := Prod.ext hqe.1 hqe.2
  rw [← this]; exact hq
theorem born_inj {kd : IntKind} {es : Array MapEntry} {clock : Nat} {kv : List (Int × Value)} (ho : MapOk kd es clock kv) {e e' : MapEntry} (he : e ∈ es.toList) (he' : e' ∈ es.toList) (hb : e.born = e'.born) : e = e' := by
  have hn : (es.toList.map (·.born)).Nodup := ho.2.2.1.imp (fun h => Nat.ne_of_lt h)
  obtain ⟨i, hi⟩ := List.getElem?_of_mem he
  obtain ⟨j, hj⟩ := List.getElem?_of_mem he'
  have a1 : (es.toList.map (·.born))[i]? = some e.born := by simp [hi]
  have a2 : (es.toList.map (·.born))[j]? = some e.born := by simp [hj, hb]
  obtain ⟨b1, b2⟩ := List.getElem?_eq_some_iff.1 a1
  obtain ⟨c1, c2⟩ := List.getElem?_eq_some_iff.1 a2
  have := (List.getElem_inj hn).1 (b2.trans c2.symm)
  subst this
  rw [hi] at hj
  exact Option.some.inj hj
theorem key_inj {kd : IntKind} {es : Array MapEntry} {clock : Nat} {kv : List (Int × Value)} (ho : MapOk kd es clock kv) {e e' : MapEntry} (he : e ∈ es.toList) (he' : e' ∈ es.toList) (hb : e.key = e'.key) : e = e' := by
  have hk : es.toList.map (·.key) = (kv.map (·.1)).map (fun x => Value.int kd x) := by
    have := congrArg (List.map Prod.fst) ho.1
    simpa [List.map_map, Function.comp_def] using this
  have hn : (es.toList.map (·.key)).Nodup := by
    rw [hk]
    exact List.Pairwise.map _ (fun a b hab => by simpa using hab) ho.2.1
  obtain ⟨i, hi⟩ := List.getElem?_of_mem he
  obtain ⟨j, hj⟩ := List.getElem?_of_mem he'
  have a1 : (es.toList.map (·.key))[i]? = some e.key := by simp [hi]
  have a2 : (es.toList.map (·.key))[j]? = some e.key := by simp [hj, hb]
  obtain ⟨b1, b2⟩ := List.getElem?_eq_some_iff.1 a1
  obtain ⟨c1, c2⟩ := List.getElem?_eq_some_iff.1 a2
  have := (List.getElem_inj hn).1 (b2.trans c2.symm)
  subst this
  rw [hi] at hj
  exact Option.some.inj hj
theorem S.range_sub {W0 w : World} {F : HProp} {kd : IntKind} {it m : Nat} {kv done : List (Int × Value)} (h : S W0 w (F * rangeO kd it m kv done)) : ∀ p ∈ done, p ∈ kv := by
  obtain ⟨es, clock, seen, h1, h2, h3⟩ := h.range
  exact IterOk.sub h1 h2
section
variable {P : Program} {W0 w : World} {F : HProp}
theorem nodup_le {α : Type} [BEq α] [LawfulBEq α] : ∀ {l m : List α}, l.Nodup → (∀ x ∈ l, x ∈ m) → l.length ≤ m.length
  | [], _, _, _ => by simp
  | a :: l, m, hn, hs => by
    have ha : a ∈ m := hs a (by simp)
    have hn' := List.nodup_cons.1 hn
    have := nodup_le (l := l) (m := m.erase a) hn'.2 (fun x hx => by
      have hne : x ≠ a := fun h => hn'.1 (h ▸ hx)
      exact (List.mem_erase_of_ne hne).2 (hs x (by simp [hx])))
    rw [List.length_erase_of_mem ha] at this
    have hp := List.length_pos_of_mem ha
    simp only [List.length_cons]
    omega
theorem S.range_len {W0 w : World} {F : HProp} {kd : IntKind} {it m : Nat} {kv done : List (Int × Value)} (h : S W0 w (F * rangeO kd it m kv done)) : done.length ≤ kv.length := by
  obtain ⟨es, clock, seen, h1, ⟨des, h2, h3, h4, h5⟩, h6⟩ := h.range
  have e2 : des.length = done.length := by have := congrArg List.length h5; simpa using this
  have e3 : es.toList.length = kv.length := by have := congrArg List.length h1.1; simpa using this
  have := nodup_le (l := des.map (·.born)) (m := es.toList.map (·.born)) h3 (fun x hx => by
    obtain ⟨e, he, rfl⟩ := List.mem_map.1 hx
    exact List.mem_map.2 ⟨e, h2 e he, rfl⟩)
  simp only [List.length_map] at this
  omega
theorem run_range_S {kd : IntKind} {t k e : TypeId} {m : Nat} {es : Array MapEntry} {clock : Nat} (ht : P.underlying t = some (.map k e)) (hm : w.heap[m]? = some (.map es clock)) :
    (Instr.range t (.map (some m))).run P w = .ok (.pointer (some ⟨w.heap.size, 0, none⟩)) (w.alloc (.mapIter (some m) clock #[] clock)) := by
  simp [Instr.range, run_underlying ht, getObj, Sem.run, hm, newObj]
theorem S.ranged {kd : IntKind} {m : Nat} {es : Array MapEntry} {clock : Nat} {kv : List (Int × Value)} (h : S W0 w (F * blk m (.map es clock))) (ho : MapOk kd es clock kv) :
    S W0 (w.alloc (.mapIter (some m) clock #[] clock)) (F * rangeO kd w.heap.size m kv []) :=
  S.to_range (h.alloc _) ho ⟨[], by simp, by simp, rfl, rfl⟩
/-- The next entry, or none. -/
theorem run_next_S {kd : IntKind} {it m : Nat} {kv done : List (Int × Value)} (h : S W0 w (F * rangeO kd it m kv done)) :
    ((∀ p ∈ kv, p ∈ done) ∧ ∃ w', (∀ ty, (Instr.next (.pointer (some ⟨it, 0, none⟩)) false ty).run P w = .ok (.tuple #[.bool false]) w') ∧ S W0 w' (F * rangeO kd it m kv done)) ∨
    (∃ p w', p ∈ kv ∧ p.1 ∉ done.map (·.1) ∧ (∀ ty, (Instr.next (.pointer (some ⟨it, 0, none⟩)) false ty).run P w = .ok (.tuple #[.bool true, .int kd p.1, p.2]) w') ∧ S W0 w' (F * rangeO kd it m kv (done ++ [p])) ∧
      (Instr.entry (.pointer (some ⟨it, 0, none⟩))).run P w' = .ok (.tuple #[.int kd p.1, p.2]) w') := by
  obtain ⟨es, clock, seen, ho, hi, hs⟩ := h.range
  obtain ⟨des, d1, d2, d3, d4⟩ := hi
  have hheap := hs.heap
  have hmap := hs.p1.heap
  have hall : (es.all fun x => decide (x.born ≥ clock)) = true → es.size = 0 := by
    intro ha
    rcases Nat.eq_zero_or_pos es.size with h0 | h0
    · exact h0
    · exfalso
      have hm : es[0] ∈ es.toList := by simp
      have := ho.2.2.2 _ hm
      rw [Array.all_eq_true] at ha
      have := ha 0 h0
      simp at this
      omega
  have hcond : (!seen.isEmpty && !es.isEmpty && es.all fun x => decide (x.born ≥ clock)) = false := by
    cases hh : (es.all fun x => decide (x.born ≥ clock)) with
    | false => simp
    | true => have := hall hh; simp [Array.isEmpty, this]
  have hold : ∀ l : Array MapEntry, (∀ x ∈ l, x ∈ es) → l.filter (fun x => decide (x.born < clock)) = l ∧ l.filter (fun x => decide (x.born ≥ clock)) = #[] := by
    intro l hl
    constructor
    · rw [Array.filter_eq_self]
      intro x hx
      simpa using ho.2.2.2 x (by simpa using hl x hx)
    · rw [Array.filter_eq_empty_iff]
      intro x hx
      have := ho.2.2.2 x (by simpa using hl x hx)
      simp; omega
  have hleft := hold (es.filter fun x => !seen.contains x.born) (fun x hx => (Array.mem_filter.1 hx).1)
  have hrun : ∀ ty, (Instr.next (.pointer (some ⟨it, 0, none⟩)) false ty).run P w =
      (do match ((if (es.filter fun x => !seen.contains x.born).isEmpty then #[none] else #[]) ++ (es.filter fun x => !seen.contains x.born).map some : Array (Option MapEntry))[← choose (.mapNext ((if (es.filter fun x => !seen.contains x.born).isEmpty then #[none] else #[]) ++ (es.filter fun x => !seen.contains x.born).map some : Array (Option MapEntry)).size)]? with
        | some (some e) =>
          setObj it (.mapIter (some m) clock (seen.push e.born) clock)
          pure (.tuple #[.bool true, e.key, e.val])
        | some none => pure (.tuple #[.bool false])
        | none => stuck "Next: no such candidate" : Sem Value).run P w := by
    intro ty
    simp only [Instr.next, getObj, Sem.run_bind, Sem.run, hheap, hmap, Result.andThen, hcond, Bool.false_eq_true, if_false, hleft.1, hleft.2, Array.append_empty]
    rfl
  clear hleft hold hall hcond
  have hseen : ∀ e ∈ es.toList, seen.contains e.born = true ↔ e ∈ des := by
    intro e he
    rw [Array.contains_iff_mem, ← Array.mem_toList_iff, d3]
    constructor
    · intro hb
      obtain ⟨e', he', hb'⟩ := List.mem_map.1 hb
      rw [born_inj ho he (d1 e' he') hb'.symm]; exact he'
    · intro hb
      exact List.mem_map.2 ⟨e, hb, rfl⟩
  have hkv : ∀ p : Int × Value, p ∈ kv ↔ ∃ e ∈ es.toList, e.key = .int kd p.1 ∧ e.val = p.2 := by
    intro p
    have e1 : p ∈ kv ↔ ((Value.int kd p.1, p.2) : Value × Value) ∈ kv.map (fun p => (Value.int kd p.1, p.2)) := by
      constructor
      · intro hp; exact List.mem_map.2 ⟨p, hp, rfl⟩
      · intro hp
        obtain ⟨q, hq, hqe⟩ := List.mem_map.1 hp
        simp only [Prod.mk.injEq, Value.int.injEq, true_and] at hqe
        have : q = p := Prod.ext hqe.1 hqe.2
        rw [← this]; exact hq
    rw [e1, ← ho.1, List.mem_map]
    simp [Prod.ext_iff]
  have hdone : ∀ p : Int × Value, p ∈ done ↔ ∃ e ∈ des, e.key = .int kd p.1 ∧ e.val = p.2 := by
    intro p
    have e1 : p ∈ done ↔ ((Value.int kd p.1, p.2) : Value × Value) ∈ done.map (fun p => (Value.int kd p.1, p.2)) := by
      constructor
      · intro hp; exact List.mem_map.2 ⟨p, hp, rfl⟩
      · intro hp
        obtain ⟨q, hq, hqe⟩ := List.mem_map.1 hp
        simp only [Prod.mk.injEq, Value.int.injEq, true_and] at hqe
        have : q = p := Prod.ext hqe.1 hqe.2
        rw [← this]; exact hq
    rw [e1, ← d4, List.mem_map]
    simp [Prod.ext_iff]
  obtain ⟨left, hl⟩ : ∃ l : Array MapEntry, l = es.filter fun x => !seen.contains x.born := ⟨_, rfl⟩
  have hL : ∀ x, x ∈ left ↔ x ∈ es ∧ seen.contains x.born = false := by
    intro x
    rw [hl, Array.mem_filter]
    simp
  rw [← hl] at hrun
  clear hl
  by_cases hem : left.size = 0
  · left
    have hnil : left = #[] := Array.eq_empty_of_size_eq_zero hem
    refine ⟨fun p hp => ?_, w, fun ty => ?_, h⟩
    · obtain ⟨e, he, h1, h2⟩ := (hkv p).1 hp
      have hs' : seen.contains e.born = true := by
        cases hc : seen.contains e.born with
        | true => rfl
        | false =>
          have := (hL e).2 ⟨by simpa using he, hc⟩
          rw [hnil] at this
          simp at this
      exact (hdone p).2 ⟨e, (hseen e he).1 hs', h1, h2⟩
    · rw [hrun ty, hnil]
      simp [choose, Sem.run, Question.forced]
  · right
    have hne : left.isEmpty = false := by simp only [Array.isEmpty]; simpa using hem
    obtain ⟨idx, w1, hidx, hch, hw1⟩ : ∃ idx w1, idx < left.size ∧ (choose (.mapNext left.size)).run P w = .ok idx w1 ∧ S W0 w1 (F * blk m (.map es clock) * blk it (.mapIter (some m) clock seen clock)) := by
      by_cases hone : left.size ≤ 1
      · exact ⟨0, w, by omega, by rw [run_choose_drew]; simp only [Question.forced, hone, decide_true, if_true], hs⟩
      · refine ⟨_, w.drew, ?_, by rw [run_choose_drew]; simp only [Question.forced, hone, decide_false, Bool.false_eq_true, if_false]; rfl, hs.drew⟩
        simp only [Question.cut]
        exact Nat.mod_lt _ (by omega)
    obtain ⟨he1, he2⟩ := (hL left[idx]).1 (Array.getElem_mem hidx)
    have hget : left[idx]? = some left[idx] := by simp [hidx]
    generalize left[idx] = e at he1 he2 hget
    have hel : e ∈ es.toList := by simpa using he1
    have hnd : e ∉ des := fun hd => by have := (hseen e hel).2 hd; rw [he2] at this; cases this
    obtain ⟨p, hp1, hp2⟩ : ∃ p : Int × Value, e.key = .int kd p.1 ∧ e.val = p.2 := by
      have hm2 : (e.key, e.val) ∈ es.toList.map (fun e => (e.key, e.val)) := List.mem_map.2 ⟨e, hel, rfl⟩
      rw [ho.1] at hm2
      obtain ⟨q, hq, hqe⟩ := List.mem_map.1 hm2
      simp only [Prod.mk.injEq] at hqe
      exact ⟨q, hqe.1.symm, hqe.2.symm⟩
    have hset := hw1.setObj (o' := .mapIter (some m) clock (seen.push e.born) clock)
    refine ⟨p, _, (hkv p).2 ⟨e, hel, hp1, hp2⟩, fun hd => ?_, fun ty => ?_, S.to_range hset ho ⟨des ++ [e], fun x hx => ?_, ?_, ?_, ?_⟩, ?_⟩
    · obtain ⟨q, hq, hq1⟩ := List.mem_map.1 hd
      obtain ⟨e', he', h1, h2⟩ := (hdone q).1 hq
      have : e' = e := key_inj ho (d1 e' he') hel (by rw [h1, hp1, hq1])
      subst this
      exact hnd he'
    · rw [hrun ty, hne]
      simp only [Bool.false_eq_true, if_false, Array.empty_append, Array.size_map, Sem.run_bind, hch, Result.andThen_ok, Array.getElem?_map, hget, Option.map_some, hp1, hp2]
      have hh := hw1.heap
      simp [setObj, Sem.run, hh]
    · rcases List.mem_append.1 hx with hx | hx
      · exact d1 x hx
      · rw [List.mem_singleton] at hx; rw [hx]; exact hel
    · rw [List.map_append, List.nodup_append]
      refine ⟨d2, by simp, fun a ha b hb => ?_⟩
      simp at hb
      subst hb
      rintro rfl
      obtain ⟨e', he', hb'⟩ := List.mem_map.1 ha
      have : e' = e := born_inj ho (d1 e' he') hel hb'
      subst this
      exact hnd he'
    · simp [d3]
    · simp [d4, hp1, hp2]
    · have hh := hset.heap
      have hm := hset.p1.heap
      have hfind : es.find? (fun x => x.born == e.born) = some e := by
        have h1 : ∃ x ∈ es, (x.born == e.born) = true := ⟨e, he1, by simp⟩
        cases hf : es.find? (fun x => x.born == e.born) with
        | none =>
          rw [Array.find?_eq_none] at hf
          have := hf e he1
          simp at this
        | some x =>
          have hx1 := Array.mem_of_find?_eq_some hf
          have hx2 := Array.find?_some hf
          have : x = e := born_inj ho (by simpa using hx1) hel (by simpa using hx2)
          rw [this]
      simp [Instr.entry, getObj, Sem.run, hh, hm, hfind, hp1, hp2]
end
end Go.SL
