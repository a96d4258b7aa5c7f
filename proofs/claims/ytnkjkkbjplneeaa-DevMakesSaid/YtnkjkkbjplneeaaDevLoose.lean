/-
  What Loose does: the sectors with loose writes, by their numbers.
-/
import Derived.Test.YtnkjkkbjplneeaaDevSort2
import Derived.Test.YtnkjkkbjplneeaaDevFlush
namespace Go.Proofs.Ytnkjkkbjplneeaa
open Go.RowKit Go.SL
set_option maxRecDepth 100000
set_option linter.unusedSimpArgs false
set_option linter.unusedVariables false
namespace DevA
def looseAt (D : DevA) (i : Nat) : Option (Int × Int) := match D.secs[i]? with | some s => if s.loose = [] then none else some ((i : Int), (s.loose.length : Int)) | none => none
def looseN (D : DevA) (n : Nat) : List (Int × Int) := (List.range n).filterMap D.looseAt
def looseL (D : DevA) : List (Int × Int) := D.looseN D.secs.length
theorem looseN_succ (D : DevA) (n : Nat) : D.looseN (n + 1) = D.looseN n ++ (D.looseAt n).toList := by
  rw [looseN, List.range_succ, List.filterMap_append]
  cases h : D.looseAt n <;> simp [looseN, h]
theorem mem_looseN {D : DevA} {n : Nat} {x : Int × Int} : x ∈ D.looseN n ↔ ∃ i s, i < n ∧ D.secs[i]? = some s ∧ s.loose ≠ [] ∧ x = ((i : Int), (s.loose.length : Int)) := by
  unfold looseN
  rw [List.mem_filterMap]
  constructor
  · rintro ⟨i, hi, h⟩
    unfold looseAt at h
    cases hs : D.secs[i]? with
    | none => rw [hs] at h; cases h
    | some s =>
      rw [hs] at h
      simp only at h
      split at h
      · cases h
      · rename_i hne
        cases h
        exact ⟨i, s, List.mem_range.1 hi, hs, hne, rfl⟩
  · rintro ⟨i, s, hi, hs, hne, rfl⟩
    exact ⟨i, List.mem_range.2 hi, by simp [looseAt, hs, hne]⟩
theorem looseAt_fst {D : DevA} {i : Nat} {x : Int × Int} (h : D.looseAt i = some x) : x.1 = (i : Int) := by
  unfold looseAt at h
  split at h
  · split at h
    · cases h
    · cases h; rfl
  · cases h
theorem looseN_sorted (D : DevA) (n : Nat) : (D.looseN n).Pairwise fun x y => x.1 < y.1 := by
  unfold looseN
  rw [List.pairwise_filterMap]
  refine List.pairwise_lt_range.imp ?_
  intro a b hab x hx y hy
  rw [looseAt_fst hx, looseAt_fst hy]
  omega
end DevA
theorem sorted_ext : ∀ {l m : List (Int × Int)}, (l.Pairwise fun x y => x.1 < y.1) → (m.Pairwise fun x y => x.1 < y.1) → (∀ x, x ∈ l ↔ x ∈ m) → l = m
  | [], [], _, _, _ => rfl
  | [], b :: m, _, _, h => absurd ((h b).2 (by simp)) (by simp)
  | a :: l, [], _, _, h => absurd ((h a).1 (by simp)) (by simp)
  | a :: l, b :: m, hl, hm, h => by
    obtain ⟨ha, hl'⟩ := List.pairwise_cons.1 hl
    obtain ⟨hb, hm'⟩ := List.pairwise_cons.1 hm
    have hab : a = b := by
      rcases List.mem_cons.1 ((h a).1 (by simp)) with e | e
      · exact e
      · rcases List.mem_cons.1 ((h b).2 (by simp)) with e' | e'
        · exact e'.symm
        · have := ha b e'; have := hb a e; omega
    subst hab
    congr 1
    refine sorted_ext hl' hm' fun x => ⟨fun hx => ?_, fun hx => ?_⟩
    · rcases List.mem_cons.1 ((h x).1 (by simp [hx])) with e | e
      · subst e; have := ha _ hx; omega
      · exact e
    · rcases List.mem_cons.1 ((h x).2 (by simp [hx])) with e | e
      · subst e; have := hb _ hx; omega
      · exact e
theorem Sort.insertionSort_size (d : Array (Int × Int)) : (Sort.insertionSort loLt d 0 d.size).size = d.size :=
  (Sort.insertionSort_holds ⟨fun x => by simp [loLt], fun x y z h1 h2 => by simp [loLt] at *; omega, fun x y z h1 h2 => by simp [loLt] at *; omega⟩ d 0 d.size (Nat.zero_le _) (Nat.le_refl _)).1.1
theorem loLt_swo : Sort.SWO loLt := ⟨fun x => by simp [loLt], fun x y z h1 h2 => by simp [loLt] at *; omega, fun x y z h1 h2 => by simp [loLt] at *; omega⟩
/-- Sorted, a row of distinct numbers is what it must be. -/
theorem sorted_is {outs : List (Int × Int)} {m : List (Int × Int)} (hn : (outs.map (·.1)).Nodup) (hm : m.Pairwise fun x y => x.1 < y.1) (he : ∀ x, x ∈ outs ↔ x ∈ m) :
    (Sort.insertionSort loLt outs.toArray 0 outs.toArray.size).toList = m := by
  obtain ⟨⟨h1, h2, h3⟩, h4⟩ := Sort.insertionSort_holds loLt_swo outs.toArray 0 outs.toArray.size (Nat.zero_le _) (Nat.le_refl _)
  generalize Sort.insertionSort loLt outs.toArray 0 outs.toArray.size = d at *
  have hp : d.toList.Perm outs := by
    have e1 : d.extract 0 outs.toArray.size = d := by rw [← h1]; simp
    have e2 : outs.toArray.extract 0 outs.toArray.size = outs.toArray := by simp
    rw [e1, e2] at h3
    exact h3
  refine sorted_ext ?_ hm fun x => by rw [hp.mem_iff, he]
  rw [List.pairwise_iff_getElem]
  intro i j hi hj hij
  have hs := h4 i j (Nat.zero_le _) hij (by rw [← h1]; simpa using hj)
  have ei : d[i]! = d.toList[i] := by simp [show i < d.size by simpa using hi]
  have ej : d[j]! = d.toList[j] := by simp [show j < d.size by simpa using hj]
  rw [ei, ej] at hs
  have hs' : ¬ d.toList[j].1 < d.toList[i].1 := by simpa [loLt] using hs
  have hnd : (d.toList.map (·.1)).Nodup := ((hp.map (·.1)).nodup_iff).2 hn
  have hne : d.toList[i].1 ≠ d.toList[j].1 := by
    intro e
    have := (List.pairwise_iff_getElem.1 hnd) i j (by simpa using hi) (by simpa using hj) hij
    simp only [List.getElem_map] at this
    exact this e
  omega
theorem devG.lv_shape {W0 w : World} {F : HProp} {b pw : Nat} {D : DevA} {g : DevG} (h : S W0 w (F * devG b pw D g)) (ho : g.Ok D) {i : Nat} {s : Sec} {v : Value} (hi : D.secs[i]? = some s) (hl : g.lvs[i]? = some (some v)) :
    ∃ q m, v = .slice (some ⟨q, 0, none⟩) s.loose.length m ∧ s.loose.length ≤ maxLen := by
  obtain ⟨fv, lv', e1, e2, h1⟩ := devG.sec h ho hi
  rw [hl] at e2
  obtain rfl := Option.some.inj e2
  unfold secO looseO at h1
  obtain ⟨hne, k3⟩ := S.of_pr h1.assoc.assoc
  obtain ⟨vs, hvl, k4⟩ := rowsO.open k3
  rcases S.vec k4.p1 with ⟨_, h0, _⟩ | ⟨qb, m, spare, rfl, q1, q2, q3, q4, k5⟩
  · exact absurd (List.length_eq_zero_iff.1 h0) hne
  · exact ⟨qb, m, rfl, by omega⟩
theorem TLoose : SliceT Try.prog 53 86 2 16 (.agg #[.int .i64 0, .int .i64 0]) := sliceT_of Try.underlying53 (by kernel_rfl) rfl (by decide)
def lenOf : Value → Int
  | .slice _ n _ => n
  | _ => 0
/-- What the map of loose writes tells. -/
structure LooseKv (D : DevA) (kv : List (Int × Value)) : Prop where
  of_kv : ∀ q ∈ kv, ∃ (i : Nat) (s : Sec) (qb m : Nat), q = ((i : Int), .slice (some ⟨qb, 0, none⟩) s.loose.length m) ∧ D.secs[i]? = some s ∧ s.loose ≠ [] ∧ s.loose.length ≤ maxLen
  to_kv : ∀ (i : Nat) (s : Sec), D.secs[i]? = some s → s.loose ≠ [] → ∃ qb m, ((i : Int), Value.slice (some ⟨qb, 0, none⟩) s.loose.length m) ∈ kv
theorem LooseKv.mk' {W0 w : World} {F : HProp} {b pw : Nat} {D : DevA} {g : DevG} (h : S W0 w (F * devG b pw D g)) (ho : g.Ok D) (hm : ∀ q : Int × Value, q ∈ g.kv ↔ g.kv.lookup q.1 = some q.2) : LooseKv D g.kv := by
  constructor
  · rintro ⟨k, v⟩ hq
    have hlk : g.kv.lookup k = some v := (hm (k, v)).1 hq
    have hkv := ho.2.2.1 k
    rw [hlk] at hkv
    have hk0 : 0 ≤ k := by
      rcases Int.lt_or_le k 0 with h | h
      · rw [if_neg (by omega)] at hkv; cases hkv
      · exact h
    obtain ⟨i, rfl⟩ := Int.eq_ofNat_of_zero_le hk0
    simp only [Int.natCast_nonneg, if_true, Int.toNat_natCast] at hkv
    have hgl : g.lvs[i]? = some (some v) := by
      cases e : g.lvs[i]? with
      | none => rw [e] at hkv; cases hkv
      | some x => rw [e] at hkv; simp at hkv; rw [hkv]
    have hil : i < D.secs.length := by have h1 := (List.getElem?_eq_some_iff.1 hgl).1; have h2 := ho.2.1; omega
    obtain ⟨s, hi⟩ : ∃ s, D.secs[i]? = some s := ⟨D.secs[i], by simp [hil]⟩
    obtain ⟨qb, m, rfl, hsl⟩ := devG.lv_shape h ho hi hgl
    refine ⟨i, s, qb, m, rfl, hi, fun hs => ?_, hsl⟩
    have := (devG.lv_none h ho hi hgl).2 hs
    cases this
  · intro i s hi hne
    have hlt := (List.getElem?_eq_some_iff.1 hi).1
    have hl : i < g.lvs.length := by have := ho.2.1; omega
    have hgl : g.lvs[i]? = some (g.lvs[i]) := by simp [hl]
    cases hv : g.lvs[i] with
    | none => rw [hv] at hgl; exact absurd ((devG.lv_none h ho hi hgl).1 rfl) hne
    | some v =>
      rw [hv] at hgl
      obtain ⟨qb, m, rfl, _⟩ := devG.lv_shape h ho hi hgl
      refine ⟨qb, m, (hm _).2 ?_⟩
      have hkv := ho.2.2.1 (i : Int)
      simp only [Int.natCast_nonneg, if_true, Int.toNat_natCast, hgl] at hkv
      rw [hkv]; rfl
theorem LooseKv.bound {D : DevA} {kv done : List (Int × Value)} (h : LooseKv D kv) (hs : ∀ q ∈ done, q ∈ kv) (hn : (done.map (·.1)).Nodup) : done.length ≤ D.secs.length := by
  have := nodup_le (m := (List.range D.secs.length).map (fun i : Nat => (i : Int))) hn (fun x hx => by
    obtain ⟨q, hq, rfl⟩ := List.mem_map.1 hx
    obtain ⟨i, s, qb, m, rfl, hi, _⟩ := h.of_kv q (hs q hq)
    exact List.mem_map.2 ⟨i, List.mem_range.2 (List.getElem?_eq_some_iff.1 hi).1, rfl⟩)
  simpa using this
theorem LooseKv.sorted {D : DevA} {kv done : List (Int × Value)} (h : LooseKv D kv) (hs : ∀ q ∈ done, q ∈ kv) (ha : ∀ q ∈ kv, q ∈ done) (hn : (done.map (·.1)).Nodup) :
    (Sort.insertionSort loLt (done.map (fun q => (q.1, lenOf q.2))).toArray 0 (done.map (fun q => (q.1, lenOf q.2))).toArray.size).toList = D.looseL := by
  refine sorted_is ?_ (DevA.looseN_sorted D _) fun x => ?_
  · rw [List.map_map]; exact hn
  · unfold DevA.looseL
    rw [DevA.mem_looseN, List.mem_map]
    constructor
    · rintro ⟨q, hq, rfl⟩
      obtain ⟨i, s, qb, m, rfl, hi, hne, _⟩ := h.of_kv q (hs q hq)
      exact ⟨i, s, (List.getElem?_eq_some_iff.1 hi).1, hi, hne, rfl⟩
    · rintro ⟨i, s, _, hi, hne, rfl⟩
      obtain ⟨qb, m, hq⟩ := h.to_kv i s hi hne
      exact ⟨_, ha _ hq, rfl⟩
section
variable (W0 w : World) (F : HProp) (b pw : Nat) (D : DevA)
set_option maxHeartbeats 1000000 in
theorem DevLoose (hD : (D.looseL).length ≤ 12) (hsec : D.secs.length ≤ 1000000) (hs : S W0 w (F * devO b pw D)) :
    Calls Try.prog 22 #[.pointer (some ⟨b, 0, none⟩)] w fun e w' => ∃ v, e = .returned v ∧ S W0 w' (F * devO b pw D * vecB 86 2 v D.looseL.length (flatL D.looseL)) := by
  have hreal := DevReal W0 w F b pw D hs
  go_enter Try.func22, Try.ntmps22
  obtain ⟨g, ho, hsg⟩ := devO.open hs
  obtain ⟨c0, c1, c2, c3, c4, c5, fr⟩ := devG.cells hsg
  obtain ⟨es, clock, hmo, hs3⟩ := S.map (devG.top hsg).p2
  have hrange := run_range_S (P := Try.prog) (kd := .i64) Try.underlying69 hs3.heap
  have hs4 := S.ranged hs3 hmo
  have HK := Lib.hid (LooseKv.mk' hsg ho fun q => nodup_lookup hmo.2.1)
  have HO := Lib.hid ho
  clear ho hsg hs3
  have hs5 : S W0 _ (F * vecB 86 2 (.slice none 0 0) ([] : List (Int × Int)).length (flatL []) * flushO b pw D g w.heap.size [] g.fvs g.lvs D.secs g.kvr) := S.perm (flushO.of_parts hs4.perm).to_vec_nil
  clear hmo hs4
  go_wp2_with (first | (go_at_call 45; refine (hreal).mono ?_; rintro e w' ⟨rfl, rfl⟩))
  clear c0 c1 c2 c3 c4 c5 fr hrange hreal hs
  generalize w'.heap.size = it at *
  go_loopw [3] (fun v wr => ∃ (done : List (Int × Value)) (outs : List (Int × Int)), outs = done.map (fun q => (q.1, lenOf q.2)) ∧ (done.map (·.1)).Nodup ∧
      S W0 wr (F * vecB 86 2 v outs.length (flatL outs) * flushO b pw D g it done g.fvs g.lvs D.secs g.kvr)) (fun _ wr => iterLeft it g.kv.length wr)
  case atStart => exact ⟨[], [], rfl, by simp, hs5⟩
  case round =>
    obtain ⟨done, outs, HOU, HND, hk⟩ := hrel
    have hou := Lib.hid HOU
    have hnd := Lib.hid HND
    clear HOU HND hs5
    have hkp := flushO.parts hk
    have hleft := Lib.hid (S.left_of (n := g.kv.length) hkp.p2)
    rcases run_next_S (P := Try.prog) hkp.p2 with ⟨hall, w2, hn, hs6⟩ | ⟨q, w2, hq, hnq, hn, hs6, hent⟩
    · have hsorted := HK.out.sorted hs6.range_sub hall hnd.out
      rw [← hou.out] at hsorted
      have hbd := HK.out.bound hs6.range_sub hnd.out
      have hl12 : outs.length = D.looseL.length := by
        have e := congrArg List.length hsorted
        have e2 := Sort.insertionSort_size outs.toArray
        simp only [Array.length_toList] at e
        rw [e2] at e
        simpa using e
      have hsmall : LoSmall outs.toArray := by
        intro x hx
        have hx' : x < outs.length := by simpa using hx
        have hm : outs.toArray[x]! ∈ outs := by simp [hx']
        rw [hou.out] at hm
        obtain ⟨q, hq, e⟩ := List.mem_map.1 hm
        obtain ⟨i, s, qb, m, rfl, hi, _⟩ := HK.out.of_kv q (hs6.range_sub q hq)
        rw [← hou.out] at e
        have := (List.getElem?_eq_some_iff.1 hi).1
        rw [← e]
        simp only
        omega
      have hs7 := flushO.of_parts hs6.q2
      have hs8 : S W0 w2 (F * vecB 86 2 u3 outs.length (flatL outs) * devO b pw D) := by
        refine devO.shut (devG.of_top ?_) HO.out
        exact hs6.range_map.perm
      clear hs6 hs7 hkp hk hall
      rcases S.vec hs8.p1 with ⟨rfl, h0, _, hs9⟩ | ⟨gb, m, spare, rfl, q1, q2, q3, q4, hs9⟩
      · have hsort := LooseSortNil W0 w2 _ hs8
        have e0 : D.looseL = [] := List.length_eq_zero_iff.1 (by omega)
        have e1 : outs = [] := List.length_eq_zero_iff.1 h0
        clear hsorted hsmall hs9 hs8 HO HK hou hnd hleft
        go_wp2_with (first | (go_at_call 47; refine (hsort).mono ?_; rintro e w' ⟨rfl, hs10⟩))
        go_ret
        rw [e1] at hs10
        rw [e0]
        exact ⟨_, rfl, hs10.p1⟩
      · have hsort := LooseSort W0 w2 (F * devO b pw D) gb m spare outs.toArray (by simp; omega) hsmall hs9
        rw [List.size_toArray] at hsort
        have HS := Lib.hid hsorted
        have HQ := Lib.hid (⟨hl12, q1, q2, q3, q4⟩ : _ ∧ _ ∧ _ ∧ _ ∧ _)
        clear hsorted hsmall hs9 hs8 HO HK hou hnd hleft hl12 q1 q2 q3 q4
        generalize hln : outs.length = ln at *
        have HL := Lib.hid hln
        clear hln
        go_wp2_with (first | (go_at_call 47; refine (hsort).mono ?_; rintro e w' ⟨rfl, hs10⟩))
        go_ret
        refine ⟨_, rfl, ?_⟩
        obtain ⟨l12, q1, q2, q3, q4⟩ := HQ.out
        have e := HS.out
        rw [List.size_toArray, HL.out] at e
        unfold loObj at hs10
        rw [e] at hs10
        rw [← l12]
        refine S.to_vec hs10 ?_ q2 q3 q4
        rw [flatL_length, ← l12]
        omega
    · obtain ⟨i, s, qb, m, rfl, hi, hne, hsl⟩ := HK.out.of_kv q hq
      have hk1 := flushO.of_parts hs6.q2
      have hb := HK.out.bound hs6.range_sub (by
        rw [List.map_append, List.nodup_append]
        refine ⟨hnd.out, by simp, ?_⟩
        intro a ha c hc
        simp at hc
        subst hc
        rintro rfl
        exact hnq ha)
      have hlen := Lib.hid (show outs.length + 1 ≤ 1000000 by
        have e := congrArg List.length hou.out
        simp only [List.length_map, List.length_append, List.length_singleton] at e hb
        omega)
      have HNQ := Lib.hid hnq
      have hk2 := (hk1.p1.p1.alloc (.cells #[.int .i64 (i : Int), .int .i64 s.loose.length] 86)).p2
      have hrd : Reads (w2.alloc (.cells #[.int .i64 (i : Int), .int .i64 s.loose.length] 86)) 2 (.slice (some ⟨w2.heap.size, 0, none⟩) 1 1) 1 [.int .i64 (i : Int), .int .i64 s.loose.length] := by
        refine ⟨rfl, .inr ⟨_, _, _, rfl, Nat.le_refl _, by simp [maxLen], fun j u hj => ?_⟩⟩
        rw [cell_at hk2.p1.heap]
        simpa using hj
      have HRD := Lib.hid hrd
      generalize hsn : s.loose.length = sn at *
      clear hi hnq hs6 hkp hk hne hq hsl hb hrd
      go_wp2_with (at_builtin; refine wp_append_S _ _ TLoose rfl rfl hk2 HRD.out rfl rfl ?_ ?_ ?_ ?_)
      · simp [Value.oneCell']
      · have := hlen.out; simp only [maxLen]; omega
      · have := hlen.out; omega
      intro v w3 hk3 _
      have hk4 : S W0 w3 (F * vecB 86 2 v (outs ++ [((i : Int), (sn : Int))]).length (flatL (outs ++ [((i : Int), (sn : Int))])) * flushO b pw D g it (done ++ [((i : Int), .slice (some ⟨qb, 0, none⟩) sn m)]) g.fvs g.lvs D.secs g.kvr) := by
        have e : flatL (outs ++ [((i : Int), (sn : Int))]) = flatL outs ++ [.int .i64 (i : Int), .int .i64 sn] := by simp [flatL, loV]
        rw [e, List.length_append, List.length_singleton]
        exact (hk3.p1.left).perm
      clear hk3 hk2 hk1 hn hent
      go_wp2
      go_roundw
      case rel => exact ⟨_, _, by rw [hou.out]; simp [lenOf], by
        rw [List.map_append, List.nodup_append]
        refine ⟨hnd.out, by simp, ?_⟩
        intro a ha c hc
        simp at hc
        subst hc
        rintro rfl
        exact HNQ.out ha, hk4⟩
      case measure =>
        have e1 := S.left_of (n := g.kv.length) (flushO.parts hk4).p2
        have e2 := S.range_len (flushO.parts hk4).p2
        have e3 := hleft.out
        simp only [List.length_append, List.length_singleton] at e1 e2
        omega
end
end Go.Proofs.Ytnkjkkbjplneeaa
