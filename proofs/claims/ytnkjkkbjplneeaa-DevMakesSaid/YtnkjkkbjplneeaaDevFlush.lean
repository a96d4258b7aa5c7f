/-
  What Flush does.
-/
import Derived.Test.YtnkjkkbjplneeaaDev3
import Derived.Test.YtnkjkkbjplneeaaSLIter
namespace Go.Proofs.Ytnkjkkbjplneeaa
open Go.RowKit Go.SL
set_option maxRecDepth 100000
set_option linter.unusedSimpArgs false
set_option linter.unusedVariables false
def flushed (s : Sec) : Sec := if s.loose = [] then s else ⟨s.stands, [], false⟩
namespace DevA
def flushE (p : PowA) : Int := if p.off = true then 80 else if p.spendB = false then 80 else 0
def flushP (p : PowA) : PowA := if p.off = true then p else p.spendS
def flushS (p : PowA) (D : DevA) : DevA := if p.off = true then D else if p.spendB = false then D else { D with secs := D.secs.map flushed }
end DevA
/-- Which sectors are flushed by now. -/
structure FlushI (D : DevA) (g : DevG) (done : List (Int × Value)) (fvs : List Value) (lvs : List (Option Value)) (secs : List Sec) (kvr : List (Int × Value)) : Prop where
  l1 : fvs.length = D.secs.length
  l2 : lvs.length = D.secs.length
  l3 : secs.length = D.secs.length
  lv : ∀ i : Nat, lvs[i]? = if (i : Int) ∈ done.map (·.1) then (g.lvs[i]?).map (fun _ => none) else g.lvs[i]?
  sec : ∀ i : Nat, secs[i]? = if (i : Int) ∈ done.map (·.1) then (D.secs[i]?).map flushed else D.secs[i]?
  rot : ∀ k : Int, kvr.lookup k = if k ∈ done.map (·.1) then none else g.kvr.lookup k
theorem flushed_ok {s : Sec} (h : s.Ok) : (flushed s).Ok := by
  unfold flushed
  split
  · exact h
  · exact ⟨h.stands, by simp⟩
theorem FlushI.fin {D : DevA} {g : DevG} {done : List (Int × Value)} {fvs : List Value} {lvs : List (Option Value)} {secs : List Sec} {kvr : List (Int × Value)} (hI : FlushI D g done fvs lvs secs kvr) (ho : g.Ok D)
    (hlvn : ∀ (i : Nat) (s : Sec) (lv : Option Value), D.secs[i]? = some s → g.lvs[i]? = some lv → (lv = none ↔ s.loose = [])) (hm : ∀ q : Int × Value, q ∈ g.kv ↔ g.kv.lookup q.1 = some q.2)
    (hall : ∀ q ∈ g.kv, q ∈ done) (hsub : ∀ q ∈ done, q ∈ g.kv) :
    secs = D.secs.map flushed ∧ ({ g with fvs := fvs, lvs := lvs, kv := [], kvr := kvr } : DevG).Ok { D with secs := D.secs.map flushed } := by
  obtain ⟨a1, a2, a3, a4, a5, a6, a7, a8⟩ := ho
  have key : ∀ (i : Nat) (s : Sec), D.secs[i]? = some s → ((i : Int) ∈ done.map (·.1) ↔ s.loose ≠ []) := by
    intro i s hi
    have hlt := (List.getElem?_eq_some_iff.1 hi).1
    have hlv : g.lvs[i]? = some (g.lvs[i]'(by omega)) := by simp [show i < g.lvs.length by omega]
    have h1 := hlvn i s _ hi hlv
    have h2 := a3 (i : Int)
    simp only [Int.toNat_natCast, hlv, Option.join_some] at h2
    rw [if_pos (by omega)] at h2
    constructor
    · intro hd
      obtain ⟨q, hq, hqi⟩ := List.mem_map.1 hd
      have := (hm q).1 (hsub q hq)
      rw [hqi, h2] at this
      intro hl
      rw [h1.2 hl] at this
      cases this
    · intro hl
      cases hv : g.lvs[i]'(by omega) with
      | none => exact absurd (h1.1 hv) hl
      | some v =>
        rw [hv] at h2
        exact List.mem_map.2 ⟨((i : Int), v), hall _ ((hm _).2 h2), rfl⟩
  have hsec : secs = D.secs.map flushed := by
    apply List.ext_getElem?
    intro i
    rw [hI.sec i, List.getElem?_map]
    cases hi : D.secs[i]? with
    | none => simp
    | some s =>
      have := key i s hi
      by_cases hl : s.loose = []
      · have hn : ¬ (i : Int) ∈ done.map (·.1) := fun h => (this.1 h) hl
        simp [hn, flushed, hl]
      · simp [this.2 hl]
  refine ⟨hsec, by simp [hI.l1], by simp [hI.l2], fun k => ?_, fun k => ?_, a5, a6, by simpa using a7, fun s hs => ?_⟩
  · simp only [List.lookup_nil]
    by_cases h0 : 0 ≤ k
    · rw [if_pos h0, hI.lv]
      have hk : ((k.toNat : Nat) : Int) = k := by omega
      rw [hk]
      cases hi : D.secs[k.toNat]? with
      | none =>
        have h1 : D.secs.length ≤ k.toNat := List.getElem?_eq_none_iff.1 hi
        have h2 : g.lvs[k.toNat]? = none := by rw [List.getElem?_eq_none_iff]; omega
        simp [h2]
      | some s =>
        have hlt := (List.getElem?_eq_some_iff.1 hi).1
        have hlv : g.lvs[k.toNat]? = some (g.lvs[k.toNat]'(by omega)) := by simp [show k.toNat < g.lvs.length by omega]
        have h1 := key k.toNat s hi
        rw [hk] at h1
        split
        · rw [hlv]; rfl
        · rename_i hn
          have hl : s.loose = [] := by
            cases hx : s.loose with
            | nil => rfl
            | cons a l => exact absurd (h1.2 (by rw [hx]; simp)) hn
          rw [hlv, (hlvn _ s _ hi hlv).2 hl]; rfl
    · rw [if_neg h0]
  · simp only [hI.rot k, a4 k, List.getElem?_map]
    by_cases h0 : 0 ≤ k
    · have hk : ((k.toNat : Nat) : Int) = k := by omega
      cases hi : D.secs[k.toNat]? with
      | none => simp
      | some s =>
        have h1 := key k.toNat s hi
        rw [hk] at h1
        by_cases hl : s.loose = []
        · have hn : ¬ k ∈ done.map (·.1) := fun h => (h1.1 h) hl
          simp only [hn, if_false, Option.map_some, flushed, hl, if_true]
        · simp only [h1.2 hl, if_true, Option.map_some, flushed, hl, if_false]
          simp
    · simp only [h0, false_and, if_false]
      split <;> rfl
  · obtain ⟨s', hs', rfl⟩ := List.mem_map.1 hs
    exact flushed_ok (a8 s' hs')
theorem FlushI.step {D : DevA} {g : DevG} {done : List (Int × Value)} {fvs : List Value} {lvs : List (Option Value)} {secs : List Sec} {kvr : List (Int × Value)} (hI : FlushI D g done fvs lvs secs kvr) (ho : g.Ok D)
    {i : Nat} {v u : Value} {s : Sec} (hi : D.secs[i]? = some s) (hn : (kvr.map (·.1)).Nodup) :
    FlushI D g (done ++ [((i : Int), v)]) (fvs.set i u) (lvs.set i none) (secs.set i (flushed s)) (kvDel (i : Int) kvr) := by
  have hlt := (List.getElem?_eq_some_iff.1 hi).1
  have hap : ∀ k : Int, (k ∈ (done ++ [((i : Int), v)]).map (·.1)) ↔ (k ∈ done.map (·.1) ∨ k = (i : Int)) := fun k => by rw [List.map_append, List.mem_append]; simp
  refine ⟨by simp [hI.l1], by simp [hI.l2], by simp [hI.l3], fun j => ?_, fun j => ?_, fun k => ?_⟩
  · rw [List.getElem?_set, hI.lv]
    simp only [hap]
    by_cases hij : i = j
    · subst hij
      have : i < g.lvs.length := by have := ho.2.1; omega
      have h2 : i < lvs.length := by have := hI.l2; omega
      simp [this, h2]
    · have : ¬ (j : Int) = i := by omega
      simp only [hij, this, or_false, if_false]
  · rw [List.getElem?_set, hI.sec]
    simp only [hap]
    by_cases hij : i = j
    · subst hij
      have h2 : i < secs.length := by have := hI.l3; omega
      simp [h2, hi]
    · have : ¬ (j : Int) = i := by omega
      simp only [hij, this, or_false, if_false]
  · rw [lookup_kvDel _ _ hn, hI.rot]
    simp only [hap]
    by_cases hk : k = (i : Int)
    · subst hk; simp
    · simp only [hk, or_false, if_false]
section
variable {W0 w : World} {F : HProp} {b pw : Nat} {D : DevA} {g : DevG}
theorem devG.lv_none (h : S W0 w (F * devG b pw D g)) (ho : g.Ok D) {i : Nat} {s : Sec} {lv : Option Value} (hi : D.secs[i]? = some s) (hl : g.lvs[i]? = some lv) : lv = none ↔ s.loose = [] := by
  obtain ⟨fv, lv', e1, e2, h1⟩ := devG.sec h ho hi
  rw [hl] at e2
  obtain rfl := Option.some.inj e2
  unfold secO at h1
  obtain ⟨_, _, h3, _⟩ := looseO.open h1.assoc
  exact h3
/-- The parts of a device, as loose lists. -/
def flushO (b pw : Nat) (D : DevA) (g : DevG) (it : Nat) (done : List (Int × Value)) (fvs : List Value) (lvs : List (Option Value)) (secs : List Sec) (kvr : List (Int × Value)) : HProp :=
  stars (secsL fvs lvs secs) * mapB .i64 g.rm kvr * rangeO .i64 it g.lm g.kv done * blk g.fb (.cells fvs.toArray 44 (0, 0)) * blk b (.cells (devCells pw D g) 73 (0, 0))
theorem flushO.parts {it : Nat} {done : List (Int × Value)} {fvs : List Value} {lvs : List (Option Value)} {secs : List Sec} {kvr : List (Int × Value)} (h : S W0 w (F * flushO b pw D g it done fvs lvs secs kvr)) :
    S W0 w (F * stars (secsL fvs lvs secs) * mapB .i64 g.rm kvr * rangeO .i64 it g.lm g.kv done * blk g.fb (.cells fvs.toArray 44 (0, 0)) * blk b (.cells (devCells pw D g) 73 (0, 0))) := by unfold flushO at h; exact h.perm
theorem flushO.of_parts {it : Nat} {done : List (Int × Value)} {fvs : List Value} {lvs : List (Option Value)} {secs : List Sec} {kvr : List (Int × Value)}
    (h : S W0 w (F * stars (secsL fvs lvs secs) * mapB .i64 g.rm kvr * rangeO .i64 it g.lm g.kv done * blk g.fb (.cells fvs.toArray 44 (0, 0)) * blk b (.cells (devCells pw D g) 73 (0, 0)))) :
    S W0 w (F * flushO b pw D g it done fvs lvs secs kvr) := by unfold flushO; exact h.perm
end
section
variable (W0 w : World) (F : HProp) (b pw : Nat) (D : DevA)
set_option maxHeartbeats 1000000 in
theorem DevFlush (p : PowA) (hp : p.ok) (hs : S W0 w (F * powO pw p * devO b pw D)) :
    Calls Try.prog 9 #[.pointer (some ⟨b, 0, none⟩)] w fun e w' => e = .returned (.int .i64 (DevA.flushE p)) ∧ S W0 w' (F * powO pw (DevA.flushP p) * devO b pw (DevA.flushS p D)) := by
  have hready := DevReady W0 w F b pw D p hs
  unfold DevA.flushE DevA.flushP DevA.flushS
  by_cases h1 : p.off = true
  · simp only [readyE, h1, if_true] at hready ⊢
    go_enter Try.func9, Try.ntmps9
    go_wp2_with (first | (go_at_call 32; refine (hready).mono ?_; rintro e w' ⟨rfl, rfl⟩))
    go_ret
    exact ⟨rfl, hs⟩
  simp only [readyE, h1, if_false] at hready ⊢
  have hspend := PowSpend W0 w (F * devO b pw D) pw p hp hs.perm
  obtain ⟨g, ho, hsg⟩ := devO.open hs
  obtain ⟨c0, c1, c2, c3, c4, c5, fr⟩ := devG.cells hsg
  clear ho hsg c1 c2 c3 c4 c5 fr g
  cases h4 : p.spendB with
  | false =>
    rw [h4] at hspend
    simp only [if_true]
    go_enter Try.func9, Try.ntmps9
    go_wp2_with (first | (go_at_call 32; refine (hready).mono ?_; rintro e w' ⟨rfl, rfl⟩) | (go_at_call 33; refine (hspend).mono ?_; rintro e w' ⟨rfl, hs1⟩))
    go_ret
    exact ⟨rfl, hs1.perm⟩
  | true =>
    rw [h4] at hspend
    simp only [Bool.true_eq_false, if_false]
    go_enter Try.func9, Try.ntmps9
    go_wp2_with (first | (go_at_call 32; refine (hready).mono ?_; rintro e w' ⟨rfl, rfl⟩))
    refine hspend.mono ?_
    rintro e w1 ⟨rfl, hs1⟩
    have hs2 : S W0 w1 (F * powO pw p.spendS * devO b pw D) := hs1.perm
    obtain ⟨g, ho, hsg⟩ := devO.open hs2
    obtain ⟨c0, c1, c2, c3, c4, c5, fr⟩ := devG.cells hsg
    obtain ⟨es, clock, hmo, hs3⟩ := S.map (devG.top hsg).p2
    have hrange := run_range_S (P := Try.prog) (kd := .i64) Try.underlying69 hs3.heap
    have hs4 := S.ranged hs3 hmo
    have hlvn := Lib.hid (fun i s lv => devG.lv_none hsg ho (i := i) (s := s) (lv := lv))
    have HO := Lib.hid ho
    clear ho hsg hs1 hs2 hs3
    have hs5 : S W0 _ (F * powO pw p.spendS * flushO b pw D g w1.heap.size [] g.fvs g.lvs D.secs g.kvr) := flushO.of_parts hs4.perm
    have hI0 : FlushI D g [] g.fvs g.lvs D.secs g.kvr := ⟨HO.out.1, HO.out.2.1, rfl, fun i => by simp, fun i => by simp, fun k => by simp⟩
    have hmem : ∀ q : Int × Value, q ∈ g.kv ↔ g.kv.lookup q.1 = some q.2 := fun q => nodup_lookup hmo.2.1
    have HM := Lib.hid hmem
    clear hmem hmo
    go_wp2_with fail
    generalize w1.heap.size = it at *
    clear hs4 c0 c1 c2 c3 c4 c5 fr hrange
    go_loopw [22] (fun _ wr => ∃ done fvs lvs secs kvr, FlushI D g done fvs lvs secs kvr ∧ S W0 wr (F * powO pw p.spendS * flushO b pw D g it done fvs lvs secs kvr)) (fun _ wr => iterLeft it g.kv.length wr)
    case atStart => exact ⟨[], g.fvs, g.lvs, D.secs, g.kvr, hI0, hs5⟩
    case round =>
      obtain ⟨done, fvs, lvs, secs, kvr, hI, hk⟩ := hrel
      have hkp := flushO.parts hk
      have hleft := Lib.hid (S.left_of (n := g.kv.length) hkp.p2)
      rcases run_next_S (P := Try.prog) hkp.p2 with ⟨hall, w2, hn, hs6⟩ | ⟨q, w2, hq, hnq, hn, hs6, hent⟩
      · have c2 : w2.cell? ⟨b, 2, none⟩ = some (.map (some g.lm)) := cell_at hs6.p1.heap
        obtain ⟨es2, clock2, hmo2, hs7⟩ := S.map hs6.range_map
        have hclr := fun ty => run_clear_map (P := Try.prog) (ty := ty) (ats := #[69]) rfl Try.underlying69 hs7.heap
        have hs8 := (hs7.setObj (o' := .map #[] clock2)).to_map (MapOk.empty .i64 clock2)
        obtain ⟨hsec, hok⟩ := hI.fin HO.out hlvn.out HM.out hall hs6.range_sub
        have hfin := devO.shut (pw := pw) (b := b) (F := F * powO pw p.spendS) (devG.of_top (g := { g with fvs := fvs, lvs := lvs, kv := [], kvr := kvr }) (D := { D with secs := D.secs.map flushed }) (by
          have eB : devCells pw { D with secs := D.secs.map flushed } { g with fvs := fvs, lvs := lvs, kv := [], kvr := kvr } = devCells pw D g := by simp [devCells]
          rw [eB, ← hsec]
          exact hs8.perm)) hok
        clear hall hs6 hk hkp hleft hmo2 hI hsec hok hs8
        go_wp2
        go_ret
        exact ⟨rfl, hfin⟩
      · obtain ⟨k, v⟩ := q
        have hlk : g.kv.lookup k = some v := (HM.out (k, v)).1 hq
        have hkv := HO.out.2.2.1 k
        rw [hlk] at hkv
        have hk0 : 0 ≤ k := by
          rcases Int.lt_or_le k 0 with h | h
          · rw [if_neg (by omega)] at hkv; cases hkv
          · exact h
        obtain ⟨i, rfl⟩ := Int.eq_ofNat_of_zero_le hk0
        simp only [Int.natCast_nonneg, if_true, Int.toNat_natCast] at hkv
        have hgl : g.lvs[i]? = some (some v) := by
          cases e : g.lvs[i]? with
          | none => rw [e] at hkv; cases hkv
          | some x => rw [e] at hkv; simp at hkv; rw [hkv]
        have hil : i < D.secs.length := by have h1 := (List.getElem?_eq_some_iff.1 hgl).1; have h2 := HO.out.2.1; omega
        obtain ⟨s, hi⟩ : ∃ s, D.secs[i]? = some s := ⟨D.secs[i], by simp [hil]⟩
        have hnd : ¬ (i : Int) ∈ done.map (·.1) := hnq
        have hlv : lvs[i]? = some (some v) := by rw [hI.lv, if_neg hnd, hgl]
        have hse : secs[i]? = some s := by rw [hI.sec, if_neg hnd, hi]
        obtain ⟨fv, hfv⟩ : ∃ fv, fvs[i]? = some fv := ⟨fvs[i]'(by have := hI.l1; omega), by simp [show i < fvs.length by have := hI.l1; omega]⟩
        have hsl : (secsL fvs lvs secs).length = D.secs.length := by simp [secsL, hI.l1, hI.l2, hI.l3]
        have hst := stars_get (secsL fvs lvs secs) i (by omega)
        have hge : (secsL fvs lvs secs)[i]'(by omega) = secO fv (some v) s := by
          have : (secsL fvs lvs secs)[i]? = some (secO fv (some v) s) := by
            simp [secsL, List.getElem?_zipWith, List.zip, hfv, hlv, hse]
          obtain ⟨_, h⟩ := List.getElem?_eq_some_iff.1 this
          exact h
        rw [hge] at hst
        have k1 := hs6.p4
        rw [hst] at k1
        have k2 := k1.assoc
        unfold secO looseO at k2
        obtain ⟨hne, k3⟩ := S.of_pr k2.assoc.assoc
        obtain ⟨vs, hvl, k4⟩ := rowsO.open k3
        have hpos : 0 < s.loose.length := by cases hx : s.loose with | nil => exact absurd hx hne | cons a l => simp
        have hst1 : s.stands = s.loose[s.loose.length - 1]'(by omega) := by
          have : s.loose.getLast? = some (s.loose[s.loose.length - 1]'(by omega)) := by rw [List.getLast?_eq_getElem?]; simp [show s.loose.length - 1 < s.loose.length by omega]
          simp [Sec.stands, this]
        rcases S.vec k4.p1 with ⟨_, h0, _⟩ | ⟨qb, m, spare, rfl, q1, q2, q3, q4, k5⟩
        · omega
        have cq : w2.cell? ⟨qb, s.loose.length - 1, none⟩ = some (vs[s.loose.length - 1]'(by omega)) := by
          rw [cell_at k5.heap]
          simp [List.getElem?_append_left (show s.loose.length - 1 < vs.length by omega), show s.loose.length - 1 < vs.length by omega]
        have e2 := stars_get (List.zipWith (fun x l => bytesV x 5 l) vs s.loose) (s.loose.length - 1) (by simp; omega)
        simp only [List.getElem_zipWith] at e2
        rw [← hst1] at e2
        have k6 := k4.p1.left
        rw [e2] at k6
        generalize vs[s.loose.length - 1] = u at *
        have k7 := k6.assoc
        obtain ⟨ua, un, um, rfl⟩ : ∃ ua un um, u = .slice ua un um := by
          unfold bytesV at k7
          rcases S.vec k7 with ⟨rfl, _, _⟩ | ⟨_, _, _, rfl, _⟩
          · exact ⟨_, _, _, rfl⟩
          · exact ⟨_, _, _, rfl⟩
        -- [A, mapB rm, fb, b, range, starsE, bytesV fv, zipE, bytesV u stands]
        have cfb : w2.cell? ⟨g.fb, i, none⟩ = some fv := by rw [cell_at k7.p6.heap]; simpa using hfv
        have cff : w2.frozen? ⟨g.fb, i, none⟩ = false := free_at k7.p6.heap
        have cb : w2.cell? ⟨b, 1, none⟩ = some (.slice (some ⟨g.fb, 0, none⟩) D.secs.length D.secs.length) := cell_at k7.p5.heap
        have cr : w2.cell? ⟨b, 3, none⟩ = some (.map (some g.rm)) := cell_at k7.p5.heap
        have hi0 : (0 : Int) ≤ i := by omega
        have hi1 : (i : Int) < D.secs.length := by omega
        have hstep := hI.step HO.out (v := .slice (some ⟨qb, 0, none⟩) s.loose.length m) (u := .slice ua un um) hi
        have HQ := Lib.hid hst1
        have HS := Lib.hid hstep
        have HSN := Lib.hid (show (flushed s) = ⟨s.stands, [], false⟩ by simp [flushed, hne])
        have HL := Lib.hid (⟨hI.l1, hI.l2, hI.l3, hil⟩ : fvs.length = D.secs.length ∧ lvs.length = D.secs.length ∧ secs.length = D.secs.length ∧ i < D.secs.length)
        have hn0 : (0 : Int) ≤ (s.loose.length : Int) - 1 := by omega
        have hn1 : (s.loose.length : Int) - 1 < s.loose.length := by omega
        have hn4 : (1 : Int) ≤ s.loose.length := by omega
        have hn2 : ((s.loose.length : Int) - 1).toNat = s.loose.length - 1 := by omega
        have hn3 : IntKind.i64.wrap ((s.loose.length : Int) - 1) = (s.loose.length : Int) - 1 := by simp only [maxLen] at q4; exact IntWalk.i64_in _ (by omega)
        clear hstep hst1 hI hne q1 q2 q3 q4 e2 hst hge hsl hfv hse hlv hnd hi hil hgl hkv hk0 hlk k1 k2 k3 k4 k5 k6 hs6 hk hkp hq hnq hvl
        go_wp2
        refine wp_region_S [(12, fun w => w.cell? ⟨b, 1, none⟩ = some (.slice (some ⟨g.fb, 0, none⟩) D.secs.length D.secs.length) ∧ w.cell? ⟨qb, s.loose.length - 1, none⟩ = some (.slice ua un um))] rfl ?_ ?_
        · simp only [List.mem_cons, List.not_mem_nil, or_false, forall_eq]
          exact ⟨cb, cq⟩
        refine WS.takeP (i := 0) (v := ?_) rfl (by kernel_rfl) (by kernel_rfl) (by kernel_rfl) rfl (fun _ _ _ h => h) (by rfl) (fun w1 => ?_) ?_
        rotate_left 1
        · go_simp; try with_reducible rfl
        try simp only [Act.put, List.setIfInBounds_toArray, List.set_cons_zero, List.set_cons_succ]
        refine WS.takeP (i := 1) (v := ?_) rfl (by kernel_rfl) (by kernel_rfl) (by kernel_rfl) rfl (fun _ _ _ h => h) (by rfl) (fun w1 => ?_) ?_
        rotate_left 1
        · go_simp; try with_reducible rfl
        try simp only [Act.put, List.setIfInBounds_toArray, List.set_cons_zero, List.set_cons_succ]
        refine WS.takeP (i := 2) (v := ?_) rfl (by kernel_rfl) (by kernel_rfl) (by kernel_rfl) rfl (fun _ _ _ h => h) (by rfl) (fun w1 => ?_) ?_
        rotate_left 1
        · go_simp; try with_reducible rfl
        try simp only [Act.put, List.setIfInBounds_toArray, List.set_cons_zero, List.set_cons_succ]
        refine WS.takeR (i := 3) (v := ?_) (12) _ (by first | exact .head _ | exact .tail _ (.head _) | exact .tail _ (.tail _ (.head _))) rfl (by kernel_rfl) (by kernel_rfl) (by kernel_rfl) rfl (by kernel_rfl) rfl (fun _ _ _ h => h) (by rfl) (fun w1 hR => ?_) ?_
        rotate_left 1
        · (obtain ⟨r1, r2⟩ := hR); go_simp; try with_reducible rfl
        try simp only [Act.put, List.setIfInBounds_toArray, List.set_cons_zero, List.set_cons_succ]
        refine WS.takeP (i := 4) (v := ?_) rfl (by kernel_rfl) (by kernel_rfl) (by kernel_rfl) rfl (fun _ _ _ h => h) (by rfl) (fun w1 => ?_) ?_
        rotate_left 1
        · go_simp; try with_reducible rfl
        try simp only [Act.put, List.setIfInBounds_toArray, List.set_cons_zero, List.set_cons_succ]
        refine WS.takeP (i := 5) (v := ?_) rfl (by kernel_rfl) (by kernel_rfl) (by kernel_rfl) rfl (fun _ _ _ h => h) (by rfl) (fun w1 => ?_) ?_
        rotate_left 1
        · go_simp; try with_reducible rfl
        try simp only [Act.put, List.setIfInBounds_toArray, List.set_cons_zero, List.set_cons_succ]
        refine WS.takeP (i := 6) (v := ?_) rfl (by kernel_rfl) (by kernel_rfl) (by kernel_rfl) rfl (fun _ _ _ h => h) (by rfl) (fun w1 => ?_) ?_
        rotate_left 1
        · go_simp; try with_reducible rfl
        try simp only [Act.put, List.setIfInBounds_toArray, List.set_cons_zero, List.set_cons_succ]
        refine WS.takeP (i := 7) (v := ?_) rfl (by kernel_rfl) (by kernel_rfl) (by kernel_rfl) rfl (fun _ _ _ h => h) (by rfl) (fun w1 => ?_) ?_
        rotate_left 1
        · go_simp; try with_reducible rfl
        try simp only [Act.put, List.setIfInBounds_toArray, List.set_cons_zero, List.set_cons_succ]
        refine WS.takeP (i := 8) (v := ?_) rfl (by kernel_rfl) (by kernel_rfl) (by kernel_rfl) rfl (fun _ _ _ h => h) (by rfl) (fun w1 => ?_) ?_
        rotate_left 1
        · go_simp; try with_reducible rfl
        try simp only [Act.put, List.setIfInBounds_toArray, List.set_cons_zero, List.set_cons_succ]
        refine WS.takeP (i := 9) (v := ?_) rfl (by kernel_rfl) (by kernel_rfl) (by kernel_rfl) rfl (fun _ _ _ h => h) (by rfl) (fun w1 => ?_) ?_
        rotate_left 1
        · go_simp; try with_reducible rfl
        try simp only [Act.put, List.setIfInBounds_toArray, List.set_cons_zero, List.set_cons_succ]
        refine WS.takeR (i := 10) (v := ?_) (12) _ (by first | exact .head _ | exact .tail _ (.head _) | exact .tail _ (.tail _ (.head _))) rfl (by kernel_rfl) (by kernel_rfl) (by kernel_rfl) rfl (by kernel_rfl) rfl (fun _ _ _ h => h) (by rfl) (fun w1 hR => ?_) ?_
        rotate_left 1
        · (obtain ⟨r1, r2⟩ := hR); go_simp; try with_reducible rfl
        try simp only [Act.put, List.setIfInBounds_toArray, List.set_cons_zero, List.set_cons_succ]
        refine WS.takeP (i := 11) (v := ?_) rfl (by kernel_rfl) (by kernel_rfl) (by kernel_rfl) rfl (fun _ _ _ h => h) (by rfl) (fun w1 => ?_) ?_
        rotate_left 1
        · go_simp; try with_reducible rfl
        try simp only [Act.put, List.setIfInBounds_toArray, List.set_cons_zero, List.set_cons_succ]
        refine WS.one (i := 12) rfl (by kernel_rfl) (by rfl) (fun K hK => ?_)
        go_simp
        refine hK _ _ (fun q hq hq2 => ?_) ?_
        · simp only [List.mem_cons, List.not_mem_nil, or_false] at hq
          subst hq
          revert hq2
          simp
        refine WS.done (by kernel_rfl) ?_
        have k8 := (k7.p6.set (i := i) (v := .slice ua un um)).drew
        generalize (w2.setCell ⟨g.fb, i, none⟩ (.slice ua un um)).drew = w3 at k8 ⊢
        obtain ⟨es3, clock3, hmo3, k9⟩ := S.map k8.p7
        obtain ⟨es4, clock4, hmo4, hdel⟩ := run_delete_int (P := Try.prog) (ty := 0) (ats := #[70, 3]) rfl Try.underlying70 Try.underlying3 k9.heap hmo3 (i : Int)
        have cr3 : w3.cell? ⟨b, 3, none⟩ = some (.map (some g.rm)) := cell_at k8.p6.heap
        have k10 := (k9.setObj (o' := .map es4 clock4)).to_map hmo4
        have HN := Lib.hid hmo3.2.1
        clear HQ k7 k8 cfb cff cb cr cq hn0 hn1 hn2 hn3 hn4 hmo3 hmo4 k9 hi0 hi1 hpos hent hn hlvn HM hI0 hs5 hspend hready hs
        go_wp2
        generalize ({ w3 with heap := w3.heap.setIfInBounds g.rm (.map es4 clock4) } : World) = w4 at k10 ⊢
        have hI' := HS.out HN.out
        have k11 : S W0 w4 (F * powO pw p.spendS * flushO b pw D g it (done ++ [((i : Int), .slice (some ⟨qb, 0, none⟩) s.loose.length m)]) (fvs.set i (.slice ua un um)) (lvs.set i none) (secs.set i (flushed s)) (kvDel (i : Int) kvr)) := by
          obtain ⟨q1, q2, q3, q4⟩ := HL.out
          refine flushO.of_parts ?_
          rw [secsL_set _ _ _ (by omega) (by omega), stars_set _ _ _ (by simp [secsL]; omega), HSN.out]
          have e : secO (.slice ua un um) none ⟨s.stands, [], false⟩ = bytesV (.slice ua un um) 5 s.stands * pr (([] : List (List UInt8)) = []) := rfl
          rw [e]
          have k12 := (k10.p3.left.p3.left).to_pr (p := ([] : List (List UInt8)) = []) rfl
          rw [List.setIfInBounds_toArray] at k12
          exact k12.perm
        clear HS HN HL HSN k10
        go_roundw
        case rel => exact ⟨_, _, _, _, _, hI', k11⟩
        case measure =>
          have e1 := S.left_of (n := g.kv.length) (flushO.parts k11).p2
          have e2 := S.range_len (flushO.parts k11).p2
          have e3 := hleft.out
          simp only [List.length_append, List.length_singleton] at e1 e2
          omega
end
end Go.Proofs.Ytnkjkkbjplneeaa
