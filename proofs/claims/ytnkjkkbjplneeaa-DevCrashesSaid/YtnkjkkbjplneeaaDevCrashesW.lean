/-
  The walk of DevCrashes.
-/
import Derived.Test.YtnkjkkbjplneeaaDevPlaysW
namespace Go.Proofs.Ytnkjkkbjplneeaa
open Go.RowKit Go.SL
set_option maxRecDepth 100000
set_option linter.unusedSimpArgs false
set_option linter.unusedVariables false
namespace DevA
theorem fatesN_from {D : DevA} {fates : List Int} : ∀ n, n ≤ fates.length → fates.length ≤ D.looseL.length → D.fateOk fates fates.length = true → ∀ (i : Nat) (s : Sec), D.secs[i]? = some s → ∃ s', (D.fatesN fates n)[i]? = some s' ∧ s'.loose = [] ∧ (s'.fixed = s.fixed ∨ s'.fixed ∈ s.loose)
  | 0, _, _, _, i, s, hi => ⟨base s, by simp [fatesN, hi], rfl, .inl rfl⟩
  | n + 1, hn, hl, hok, i, s, hi => by
    obtain ⟨s', h1, h2, h3⟩ := fatesN_from n (by omega) hl hok i s hi
    obtain ⟨x, hx⟩ : ∃ x, D.looseL[n]? = some x := ⟨D.looseL[n]'(by omega), by simp⟩
    obtain ⟨k, hk⟩ : ∃ k, fates[n]? = some k := ⟨fates[n]'(by omega), by simp⟩
    rw [fatesN_succ hx hk]
    obtain ⟨i0, s0, e1, e2, rfl⟩ := looseL_at hx
    have hf := fateOk_at hok (show n < fates.length by omega)
    unfold fateAt at hf
    rw [hx, hk] at hf
    simp only [Bool.and_eq_true, decide_eq_true_eq] at hf
    unfold fateStep
    split
    · rename_i hk0
      simp only [Int.toNat_natCast]
      by_cases hii : i0 = i
      · subst hii
        rw [hi] at e1
        obtain rfl := Option.some.inj e1
        have hlt := (List.getElem?_eq_some_iff.1 h1).1
        obtain ⟨l, hlq⟩ : ∃ l, s.loose[k.toNat - 1]? = some l := ⟨s.loose[k.toNat - 1]'(by omega), by simp⟩
        refine ⟨_, by rw [List.getElem?_set, if_pos rfl, if_pos hlt], rfl, .inr ?_⟩
        simp [hi, hlq]
        exact List.mem_of_getElem? hlq
      · exact ⟨s', by rw [List.getElem?_set, if_neg hii]; exact h1, h2, h3⟩
    · exact ⟨s', h1, h2, h3⟩
theorem fitted_from {D : DevA} {fates : List Int} {i : Nat} {s : Sec} (hi : D.secs[i]? = some s) : ∃ s', (D.fitted fates).secs[i]? = some s' ∧ s'.loose = [] ∧ (s'.fixed = s.fixed ∨ s'.fixed ∈ s.loose) := by
  have h := D.fit_ok fates
  unfold crashE at h
  split at h
  · cases h
  · split at h
    · rename_i h1 h2
      exact fatesN_from _ (Nat.le_refl _) (by omega) h2 i s hi
    · cases h
theorem looseL_nil {D : DevA} (h : ∀ s ∈ D.secs, s.loose = []) : D.looseL = [] := by
  cases hx : D.looseL with
  | nil => rfl
  | cons x l =>
    have : x ∈ D.looseL := by rw [hx]; simp
    obtain ⟨i, s, _, h1, h2, _⟩ := mem_looseN.1 this
    exact absurd (h s (List.mem_of_getElem? h1)) h2
theorem flushed_all {D : DevA} {p : PowA} (h : flushE p = 0) : (∀ s ∈ (flushS p D).secs, s.loose = []) ∧ (flushS p D).secs.length = D.secs.length := by
  unfold flushE at h
  unfold flushS
  split at h
  · cases h
  · split at h
    · cases h
    · rename_i h1 h2
      rw [if_neg h1, if_neg h2]
      refine ⟨fun s hs => ?_, by simp⟩
      obtain ⟨s0, _, rfl⟩ := List.mem_map.1 hs
      unfold flushed
      split
      · assumption
      · rfl
theorem crash0 (D : DevA) : D.crashE [] = 0 := by unfold crashE; simp [fateOk]
theorem crash0_stands {D : DevA} (h : ∀ s ∈ D.secs, s.loose = []) (at_ : Int) : (D.crashD []).peekB at_ = D.peekB at_ ∧ (D.crashD []).has at_ = D.has at_ := by
  have hsec : (D.crashD []).secs = D.secs.map base := rfl
  have hhas : (D.crashD []).has at_ = D.has at_ := by unfold has; rw [hsec, List.length_map]
  refine ⟨?_, hhas⟩
  unfold peekB
  rw [hhas]
  split
  · unfold standsAt
    rw [hsec, List.getElem?_map]
    cases hx : D.secs[at_.toNat]? with
    | none => rfl
    | some s =>
      have := h s (List.mem_of_getElem? hx)
      simp [base, Sec.stands, this]
  · rfl
end DevA
theorem rdevO.full {W0 w : World} {F : HProp} {e q : Nat} {D : DevA} (h : S W0 w (F * rdevO e q D)) : ∃ sb, w.cell? ⟨e, 1, none⟩ = some (.slice (some ⟨sb, 0, none⟩) D.secs.length D.secs.length) ∧
    ∀ (i : Nat) (s : Sec), D.secs[i]? = some s → w.cell? ⟨sb, i * 3, none⟩ = some (strV s.fixed) ∧ ∃ lad lm, w.cell? ⟨sb, i * 3 + 1, none⟩ = some (.slice lad s.loose.length lm) ∧ s.loose.length ≤ maxLen ∧
      ∀ (j : Nat) (l : List UInt8), s.loose[j]? = some l → ∃ lb, lad = some ⟨lb, 0, none⟩ ∧ w.cell? ⟨lb, j, none⟩ = some (strV l) := by
  obtain ⟨g, hl, ho, h⟩ := rdevO.open h
  obtain ⟨c0, c1, c2, c3, fr⟩ := rdevG.cells h
  refine ⟨g.sb, c1, fun i s hi => ?_⟩
  obtain ⟨lv, hlv, d0, d1, d2, fr2⟩ := rdevG.at h hl hi
  refine ⟨d0, ?_⟩
  have hst := strsO_get hl hi hlv
  have k := (rdevG.top h).p2
  rw [hst] at k
  have k2 := k.assoc
  unfold strsO at k2
  rcases S.vec k2 with ⟨rfl, h0, _⟩ | ⟨gb, m, spare, rfl, q1, q2, q3, q4, k3⟩
  · refine ⟨none, 0, by rw [h0]; exact d1, by rw [h0]; simp [maxLen], fun j l hj => ?_⟩
    have := List.length_eq_zero_iff.1 h0
    rw [this] at hj; simp at hj
  · refine ⟨_, m, d1, by omega, fun j l hj => ⟨gb, rfl, ?_⟩⟩
    obtain ⟨hjl, rfl⟩ := List.getElem?_eq_some_iff.1 hj
    rw [cell_at k3.heap, List.getElem?_toArray, List.getElem?_append_left (by simp; omega)]
    simp [strsV, hjl]
theorem bytes_beq (a b : List UInt8) (za zb : ByteArray) (ha : strV a = .string za) (hb : strV b = .string zb) : (za.toList == zb.toList) = decide (a = b) := by
  unfold strV at ha hb
  simp only [Value.string.injEq] at ha hb
  subst ha hb
  simp only [ByteArray.toList_eq]
  rw [Bool.eq_iff_iff]
  simp
/-- What has been found by now. -/
def foundB (b fixed : List UInt8) (loose : List (List UInt8)) (j : Nat) : Bool := decide (b = fixed) || (loose.take j).any fun l => decide (b = l)
theorem foundB_succ {b fixed : List UInt8} {loose : List (List UInt8)} {j : Nat} {l : List UInt8} (h : loose[j]? = some l) : foundB b fixed loose (j + 1) = (foundB b fixed loose j || decide (b = l)) := by
  obtain ⟨hj, rfl⟩ := List.getElem?_eq_some_iff.1 h
  unfold foundB
  rw [List.take_succ_eq_append_getElem hj]
  simp only [List.any_append, List.any_cons, List.any_nil, Bool.or_false, Bool.or_assoc]
theorem foundB_all {b fixed : List UInt8} {loose : List (List UInt8)} (h : b = fixed ∨ b ∈ loose) : foundB b fixed loose loose.length = true := by
  unfold foundB
  rw [List.take_length]
  rcases h with h | h
  · simp [h]
  · simp only [Bool.or_eq_true, List.any_eq_true, decide_eq_true_eq]
    exact .inr ⟨b, h, rfl⟩
set_option maxHeartbeats 8000000 in
theorem DevCrashesWalk (W : World) (m0 : Nat) (hm0 : m0 ≤ 255) (v fv : Value) (acts : List ActA) (fates : List Int) (ha : ActsAt W v acts) (hfk : ∀ k ∈ fates, ActA.in64 k) (hf : ∀ w, Below W.heap.size W w → ReadsW w 1 fv fates.length (i64s fates)) :
    Calls Try.prog 4 #[.int .u8 (m0 : Int), v, fv] W fun e w' => e = .returned (.bool true) ∧ S W w' emp := by
  obtain ⟨ad, cap, rfl, hlen, hel⟩ := ha
  obtain ⟨a, haq⟩ : ∃ a, a = m0 % 10 := ⟨_, rfl⟩
  have ha1 : (m0 : Int) % 10 = (a : Int) := by omega
  have ha0 : (a : Int) < 10 := by omega
  have hbeg := Law08Begin W W emp a 1 (by omega) (by omega) (S.start W)
  obtain ⟨fad, fm, rfl⟩ := (hf W (Below.refl _ _)).shape
  have HF := Lib.hid (⟨hf, hfk⟩ : _ ∧ _)
  clear haq hf hfk
  go_enter Try.func4, Try.ntmps4
  go_wp2_with fail
  refine hbeg.mono ?_
  rintro e w1 ⟨g, rfl, hs1⟩
  have hst := TwoSt.start hs1
  clear hs1 hbeg
  go_wp2
  generalize hL : acts.length = L at *
  have HL := Lib.hid hL
  have HE := Lib.hid hel
  generalize g.t = t at *
  clear hL hel
  simp only [maxLen] at hlen
  go_loopw [9] (fun vi wr => ∃ i : Nat, vi = .int .i64 i ∧ i ≤ 40 ∧ TwoSt W emp t a 1 i wr) (fun vi _ => 40 - (intOf vi).toNat)
  case atStart => exact ⟨0, rfl, by omega, hst⟩
  case round =>
    clear hst
    obtain ⟨i, rfl, hi, hst⟩ := hrel
    by_cases hlt : i < L ∧ i < 30
    · obtain ⟨h1, h2⟩ := hlt
      obtain ⟨bb, oo, rfl, hbb, hcells⟩ := HE.out (fun h => by have := HL.out; rw [h] at this; simp at this; omega)
      obtain ⟨x, hx⟩ : ∃ x, acts[i]? = some x := ⟨acts[i]'(by rw [HL.out]; exact h1), by simp [HL.out, h1]⟩
      obtain ⟨hrow, hxok, hfa⟩ := hcells i x hx
      have hS : Below W.heap.size W wr := by obtain ⟨_, _, _, _, _, _, _, _, hs⟩ := hst; exact hs.below
      have hrow2 : ∀ j u, x.row[j]? = some u → wr.cell? ⟨bb, oo + i * 11 + j, none⟩ = some u := fun j u hj => by
        rw [hS.cell hbb, Nat.add_assoc]; exact hrow j u hj
      have c0 := hrow2 0 _ rfl
      have c1 := hrow2 1 _ rfl
      have c2 := hrow2 2 _ rfl
      have c3 := hrow2 3 _ rfl
      have c4 := hrow2 4 _ rfl
      have c5 := hrow2 5 _ rfl
      have c6 := hrow2 6 _ rfl
      have c7 := hrow2 7 _ rfl
      have c8 := hrow2 8 _ rfl
      have c9 := hrow2 9 _ rfl
      have c10 := hrow2 10 _ rfl
      have hdo := Law08Do W wr emp t a 1 i x hxok (hyp_fates hfa) (by omega) (by omega) (by omega) hst
      unfold ActA.row at hdo
      have i0 : (0 : Int) ≤ i := by omega
      have i1 : (i : Int) < L := by omega
      have i2 : (i : Int) < 30 := by omega
      clear hrow hrow2 hcells hfa hx hst hxok
      simp only [Nat.add_zero] at c0
      go_wp2_with fail
      refine hdo.mono ?_
      rintro e w2 ⟨rfl, hst2⟩
      clear hdo hS c0 c1 c2 c3 c4 c5 c6 c7 c8 c9 c10
      go_wp2
      go_roundw
      case rel => exact ⟨i + 1, by go_num, by omega, hst2⟩
      case measure => simp [intOf]; omega
    · have i0 : (0 : Int) ≤ i := by omega
      obtain ⟨fl, hfl⟩ : ∃ fl : Bool, fl = decide ((i : Int) < L) := ⟨_, rfl⟩
      have hpart : ((i : Int) < L ∧ ¬ (i : Int) < 30) ∨ ¬ (i : Int) < L := by omega
      obtain ⟨g, p, D, D1, rfl, hp, ⟨ha2, _⟩, ⟨hsm, _⟩, hs⟩ := hst
      unfold sideD sideR twoB at hs
      have hs2 : S W wr (emp * powO g.pw p * rdevO g.e0 g.q D * devO g.d0 g.pw D * blk g.t (.cells #[.pointer (some ⟨g.pw, 0, none⟩), .pointer (some ⟨g.d0, 0, none⟩), .pointer (some ⟨g.d1, 0, none⟩), .pointer (some ⟨g.q, 0, none⟩), .pointer (some ⟨g.e0, 0, none⟩), .pointer (some ⟨g.e1, 0, none⟩)] 34 (0, 0))) := by
        have h : S W wr (emp * powO g.pw p * rdevO g.e0 g.q D * devO g.d0 g.pw D * blk g.t (.cells #[.pointer (some ⟨g.pw, 0, none⟩), .pointer (some ⟨g.d0, 0, none⟩), .pointer (some ⟨g.d1, 0, none⟩), .pointer (some ⟨g.q, 0, none⟩), .pointer (some ⟨g.e0, 0, none⟩), .pointer (some ⟨g.e1, 0, none⟩)] 34 (0, 0)) * devO g.d1 g.pw D1 * rpowO g.q p * rdevO g.e1 g.q D1) := hs.perm
        exact h.left.left.left
      have z1 : wr.cell? ⟨g.t, 1, none⟩ = some (.pointer (some ⟨g.d0, 0, none⟩)) := cell_at hs2.heap
      have z2 : wr.cell? ⟨g.t, 4, none⟩ = some (.pointer (some ⟨g.e0, 0, none⟩)) := cell_at hs2.heap
      have hs3 := hs2.left
      have hD12 : D.secs.length ≤ 12 := by omega
      have hL12 : D.looseL.length ≤ 12 := by have := D.looseL_le; omega
      have HD := Lib.hid (⟨hL12, hsm⟩ : _ ∧ _)
      clear hs hs2 hlt hfl ha2 hsm hL12
      generalize g.d0 = d at *
      generalize g.e0 = e0 at *
      generalize g.pw = pw at *
      generalize g.q = q at *
      rcases hpart with ⟨hp1, hp2⟩ | hp1
      all_goals
        go_wp2
        go_quiet (fail)
        have hs4 := drewN_S nq hs3
        clear z1 z2 hs3
        generalize wr.drewN nq = w2 at hs4 ⊢
        have hpn := PowNew W w2 _ hs4
        go_wp2_with fail
        refine hpn.mono ?_
        rintro e w3 ⟨pw2, rfl, hs5⟩
        have hlo := RefLoose W w3 _ e0 q D (S.perm (B := emp * powO pw p * devO d pw D * powO pw2 .new * rdevO e0 q D) hs5)
        clear hpn hs4
        go_wp2_with fail
        refine hlo.mono ?_
        rintro e w4 ⟨lv, rfl, hs6⟩
        have hfit := RefFit W w4 _ lv (.slice fad fates.length fm) D.looseL fates (by have := HD.out.1; omega) (fun x hx => by
          obtain ⟨j, s, _, hj, _, rfl⟩ := DevA.mem_looseN.1 hx
          have := HD.out.2 s (List.mem_of_getElem? hj)
          simp only
          omega) HF.out.2 (fun w h => h.reads) (fun w h => HF.out.1 w h.below) hs6
        clear hlo hs5
        go_wp2_with fail
        refine hfit.mono ?_
        rintro e w5 ⟨fv2, rfl, hs7⟩
        have hcr0 := D.fit_ok fates
        have hcr := DevCrash W w5 _ d pw pw2 D .new (fitL D.looseL fates) HD.out.1 fv2 (fun w h => (S.reads (S.left h)).wide) (S.perm (B := emp * powO pw p * rdevO e0 q D * vecB 3 1 fv2 (fitL D.looseL fates).length (i64s (fitL D.looseL fates)) * vecB 86 2 lv D.looseL.length (flatL D.looseL) * devO d pw D * powO pw2 .new) hs7)
        clear hfit hs6
        go_wp2_with fail
        refine hcr.mono ?_
        rintro e w6 (⟨h, _⟩ | ⟨_, x, rfl, hs8⟩)
        · exact absurd hcr0 h
        have hs9 : S W w6 (emp * powO pw p * devO d pw D * rdevO e0 q D * devO x pw2 (D.fitted fates)) := by
          have h : S W w6 (emp * powO pw p * devO d pw D * rdevO e0 q D * devO x pw2 (D.crashD (fitL D.looseL fates)) * powO pw2 .new * vecB 3 1 fv2 (fitL D.looseL fates).length (i64s (fitL D.looseL fates)) * vecB 86 2 lv D.looseL.length (flatL D.looseL)) := hs8.perm
          exact h.left.left.left
        have hflen : (D.fitted fates).secs.length = D.secs.length := D.fitted_len fates
        have hfrom := fun (i : Nat) (s : Sec) (h : D.secs[i]? = some s) => D.fitted_from (fates := fates) h
        have HX := Lib.hid (⟨hflen, hfrom⟩ : _ ∧ _)
        clear hcr hcr0 hs7 hs8 hflen hfrom
        generalize D.fitted fates = DX at *
        go_wp2
        go_loopw [14] (fun vi wr => ∃ i : Nat, vi = .int .i64 i ∧ i ≤ D.secs.length ∧ S W wr (emp * powO pw p * devO d pw D * rdevO e0 q D * devO x pw2 DX)) (fun vi _ => D.secs.length - (intOf vi).toNat)
        case atStart => exact ⟨0, rfl, by omega, hs9⟩
        case round =>
          clear hs9
          obtain ⟨n, rfl, hn, hs9⟩ := hrel
          obtain ⟨sb, c1, hrow⟩ := rdevO.full hs9.p1
          have n0 : (0 : Int) ≤ n := by omega
          by_cases hlt2 : n < D.secs.length
          · have n1 : (n : Int) < D.secs.length := by omega
            obtain ⟨s, hsi⟩ : ∃ s, D.secs[n]? = some s := ⟨D.secs[n], by simp [hlt2]⟩
            obtain ⟨s', hx1, hx2, hx3⟩ := HX.out.2 n s hsi
            have hpk := DevPeek W _ _ x pw2 DX (n : Int) hs9
            have hhas : DX.has (n : Int) = true := by simp [DevA.has, HX.out.1, hlt2]
            have hst : DX.peekB (n : Int) = s'.fixed := by simp [DevA.peekB, hhas, DevA.standsAt, hx1, Sec.stands, hx2]
            rw [hhas, hst] at hpk
            obtain ⟨b, hbq⟩ : ∃ b, b = s'.fixed := ⟨_, rfl⟩
            rw [← hbq] at hpk hx3
            have HQ := Lib.hid (⟨hx3, hsi⟩ : _ ∧ _)
            clear hhas hst hrow hx1 hx2 hx3 hbq hsi
            go_wp2_with fail
            refine hpk.mono ?_
            rintro e w7 ⟨v, rfl, hs10⟩
            clear hpk c1 hs9
            obtain ⟨sb, c1, hrow⟩ := rdevO.full hs10.p2
            obtain ⟨d0, lad, lm, d1, hll, dl⟩ := hrow n s HQ.out.2
            have hcv := fun nn => run_str_S (P := Try.prog) (w := w7.drewN nn) Try.underlying44 Try.underlying5 Try.underlying9 (S.reads (drewN_S nn hs10))
            obtain ⟨zb, hzb⟩ : ∃ zb, strV b = .string zb := ⟨_, rfl⟩
            obtain ⟨zf, hzf⟩ : ∃ zf, strV s.fixed = .string zf := ⟨_, rfl⟩
            rw [hzb] at hcv
            rw [hzf] at d0
            obtain ⟨f0, hf0⟩ : ∃ f0, f0 = foundB b s.fixed s.loose 0 := ⟨_, rfl⟩
            have hcmp : (zb.toList == zf.toList) = f0 := by rw [bytes_beq b s.fixed zb zf hzb hzf, hf0]; simp [foundB]
            have HZ := Lib.hid (⟨hzb, hzf, hf0⟩ : _ ∧ _ ∧ _)
            clear hzb hzf hf0 hrow dl
            go_wp2
            go_quiet (fail)
            have hs11 := drewN_S nq hs10
            clear hs10 hcv d0 d1 c1 hcmp
            generalize w7.drewN nq = w8 at hs11 ⊢
            simp only [maxLen] at hll
            go_wp2
            go_loopw [17, 18] (fun vf vj wr => ∃ (j : Nat) (f : Bool), vj = .int .i64 j ∧ vf = .bool f ∧ j ≤ s.loose.length ∧ f = foundB b s.fixed s.loose j ∧ S W wr (emp * powO pw p * devO d pw D * rdevO e0 q D * devO x pw2 DX * bytesV v 5 b)) (fun _ vj _ => s.loose.length - (intOf vj).toNat)
            case atStart => exact ⟨0, f0, rfl, rfl, by omega, HZ.out.2.2, hs11⟩
            case round =>
              clear hs11
              obtain ⟨j, f, rfl, rfl, hj, hfq, hs11⟩ := hrel
              have HFQ := Lib.hid hfq
              clear hfq
              obtain ⟨sb, c1, hrow⟩ := rdevO.full hs11.p2
              obtain ⟨d0, lad, lm, d1, _, dl⟩ := hrow n s HQ.out.2
              have j0 : (0 : Int) ≤ j := by omega
              clear hrow d0
              by_cases hlt3 : j < s.loose.length
              · have j1 : (j : Int) < s.loose.length := by omega
                obtain ⟨l, hlj⟩ : ∃ l, s.loose[j]? = some l := ⟨s.loose[j], by simp [hlt3]⟩
                obtain ⟨lb, rfl, d2⟩ := dl j l hlj
                have hstep := foundB_succ (b := b) (fixed := s.fixed) hlj
                rw [← HFQ.out] at hstep
                have HST := Lib.hid hstep
                clear hstep dl hlj
                cases f with
                | true =>
                  go_wp2
                  go_quiet (fail)
                  have hs12 := drewN_S nq hs11
                  clear d1 d2 c1 hs11
                  generalize wr.drewN nq = w9 at hs12 ⊢
                  go_wp2
                  go_roundw
                  case rel => exact ⟨j + 1, true, by go_num, rfl, by omega, by rw [HST.out]; rfl, hs12⟩
                  case measure => simp [intOf]; omega
                | false =>
                  have hcv := fun nn => run_str_S (P := Try.prog) (w := wr.drewN nn) Try.underlying44 Try.underlying5 Try.underlying9 (S.reads (drewN_S nn hs11))
                  rw [HZ.out.1] at hcv
                  obtain ⟨zl, hzl⟩ : ∃ zl, strV l = .string zl := ⟨_, rfl⟩
                  rw [hzl] at d2
                  obtain ⟨f1, hf1⟩ : ∃ f1, f1 = foundB b s.fixed s.loose (j + 1) := ⟨_, rfl⟩
                  have hcmp : (zb.toList == zl.toList) = f1 := by rw [bytes_beq b l zb zl HZ.out.1 hzl, hf1, HST.out]; simp
                  have HF1 := Lib.hid hf1
                  clear hzl hf1
                  go_wp2
                  go_quiet (fail)
                  have hs12 := drewN_S nq hs11
                  clear d1 d2 c1 hs11 hcmp hcv
                  generalize wr.drewN nq = w9 at hs12 ⊢
                  go_wp2
                  go_roundw
                  case rel => exact ⟨j + 1, f1, by go_num, rfl, by omega, HF1.out, hs12⟩
                  case measure => simp [intOf]; omega
              · have hjl : j = s.loose.length := by omega
                have hft : f = true := by rw [HFQ.out, hjl]; exact foundB_all HQ.out.1
                subst hft
                have j1 : ¬ (j : Int) < s.loose.length := by omega
                clear hjl dl
                go_wp2
                go_roundw
                case rel => exact ⟨n + 1, by go_num, by omega, hs11.left⟩
                case measure => simp [intOf]; omega
          · have : n = D.secs.length := by omega
            clear hrow
            subst this
            have hs10 := hs9.left.left
            have hfl := DevFlush W wr emp d pw D p hp hs10
            clear hs9 HX
            by_cases hE : DevA.flushE p = 0
            rotate_left
            · have hE2 : (DevA.flushE p == 0) = false := by simpa using hE
              clear hE
              go_wp2_with fail
              refine hfl.mono ?_
              rintro e w7 ⟨rfl, hs11⟩
              have haw := Law08Awake W w7 _ hs11.left.left
              clear hfl
              go_wp2_with fail
              refine haw.mono ?_
              rintro e w8 ⟨rfl, hs12⟩
              go_wp2
              go_ret
              exact ⟨rfl, hs12⟩
            obtain ⟨hfl1, hfl2⟩ := D.flushed_all (p := p) hE
            rw [hE] at hfl
            generalize DevA.flushS p D = D2 at *
            generalize DevA.flushP p = p2 at *
            have hl2 : D2.looseL = [] := DevA.looseL_nil hfl1
            have hcs := fun at_ => DevA.crash0_stands hfl1 at_
            have hl3 : (D2.crashD []).looseL = [] := DevA.looseL_nil (D2.fatesN_loose [] 0)
            have hc0 := D2.crash0
            have hn3 : (D2.crashD []).secs.length = D.secs.length := (D2.fatesN_length [] 0).trans hfl2
            have H2 := Lib.hid (⟨hfl1, hfl2, hl2, hcs, hl3, hc0, hn3⟩ : _ ∧ _ ∧ _ ∧ _ ∧ _ ∧ _ ∧ _)
            clear hfl1 hfl2 hl2 hcs hl3 hc0 hE hn3
            go_wp2_with fail
            refine hfl.mono ?_
            rintro e w7 ⟨rfl, hs11⟩
            have hpn := PowNew W w7 _ hs11
            clear hfl c1
            go_wp2_with fail
            refine hpn.mono ?_
            rintro e w8 ⟨pw3, rfl, hs12⟩
            have hcr := DevCrash W w8 _ d pw pw3 D2 .new [] (by rw [H2.out.2.2.1]; simp) (.slice none 0 0) (fun w h => ⟨rfl, by simp [maxLen], none, 0, rfl, fun h => by simp at h⟩) hs12
            clear hpn hs11
            go_wp2_with fail
            refine hcr.mono ?_
            rintro e w9 (⟨h, _⟩ | ⟨_, y, rfl, hs13⟩)
            · exact absurd H2.out.2.2.2.2.2.1 h
            clear hcr hs12
            have hs14 : S W w9 (emp * powO pw p2 * powO pw3 .new * devO d pw D2 * devO y pw3 (D2.crashD [])) := S.perm hs13
            clear hs13
            obtain ⟨m, hm⟩ : ∃ m, m = D.secs.length := ⟨_, rfl⟩
            have hm12 : m ≤ 12 := by omega
            have hm2 : D2.secs.length = m := by rw [hm]; exact H2.out.2.1
            have HM := Lib.hid (⟨hm, hm2⟩ : _ ∧ _)
            clear hm hm2
            go_wp2
            go_loopw [21] (fun vi wr => ∃ i : Nat, vi = .int .i64 i ∧ i ≤ m ∧ S W wr (emp * powO pw p2 * powO pw3 .new * devO d pw D2 * devO y pw3 (D2.crashD []))) (fun vi _ => m - (intOf vi).toNat)
            case atStart => exact ⟨0, rfl, by omega, hs14⟩
            case round =>
              clear hs14
              obtain ⟨k, rfl, hk, hs14⟩ := hrel
              have hsz := DevSize W _ _ d pw D2 hs14.p1
              rw [HM.out.2] at hsz
              have k0 : (0 : Int) ≤ k := by omega
              by_cases hlt4 : k < m
              · have k1 : (k : Int) < m := by omega
                have hh1 : D2.has (k : Int) = true := by
                  have := HM.out.2
                  simp [DevA.has, this, hlt4]
                have hpk1 := DevPeek W _ _ d pw D2 (k : Int) hs14.p1
                rw [hh1] at hpk1
                obtain ⟨q1, q2⟩ := H2.out.2.2.2.1 (k : Int)
                rw [hh1] at q2
                have HQ2 := Lib.hid (⟨q1, q2⟩ : _ ∧ _)
                clear q1 q2 hh1
                go_wp2_with fail
                refine hsz.mono ?_
                rintro e wx ⟨rfl, rfl⟩
                clear hsz
                go_wp2_with fail
                refine hpk1.mono ?_
                rintro e w11 ⟨v1, rfl, hs15⟩
                have hpk2 := DevPeek W _ _ y pw3 (D2.crashD []) (k : Int) hs15.p2
                rw [HQ2.out.1, HQ2.out.2] at hpk2
                clear hpk1
                go_wp2_with fail
                refine hpk2.mono ?_
                rintro e w12 ⟨v2, rfl, hs16⟩
                have hcv1 := run_str_S (P := Try.prog) (w := w12) Try.underlying44 Try.underlying5 Try.underlying9 (S.reads hs16.p2)
                have hcv2 := run_str_S (P := Try.prog) (w := w12) Try.underlying44 Try.underlying5 Try.underlying9 (S.reads hs16)
                obtain ⟨zz, hzz⟩ : ∃ zz, strV (D2.peekB (k : Int)) = .string zz := ⟨_, rfl⟩
                rw [hzz] at hcv1 hcv2
                have hs17 : S W w12 (emp * powO pw p2 * powO pw3 .new * devO d pw D2 * devO y pw3 (D2.crashD [])) := by
                  have h : S W w12 (emp * powO pw p2 * powO pw3 .new * devO d pw D2 * devO y pw3 (D2.crashD []) * bytesV v1 5 (D2.peekB (k : Int)) * bytesV v2 5 (D2.peekB (k : Int))) := hs16.perm
                  exact h.left.left
                clear hzz hpk2 hs15 hs16
                go_wp2
                go_roundw
                case rel => exact ⟨k + 1, by go_num, by omega, hs17⟩
                case measure => simp [intOf]; omega
              · have k1 : ¬ (k : Int) < m := by omega
                go_wp2_with fail
                refine hsz.mono ?_
                rintro e wx ⟨rfl, rfl⟩
                clear hsz
                have hlo := DevLoose W _ _ d pw D2 (by rw [H2.out.2.2.1]; simp) (by have := HM.out.2; omega) hs14.p1
                rw [H2.out.2.2.1] at hlo
                go_wp2_with fail
                refine hlo.mono ?_
                rintro e w11 ⟨v1, rfl, hs15⟩
                obtain ⟨av, mv, rfl⟩ : ∃ av mv, v1 = .slice av 0 mv := by
                  rcases S.vec hs15 with ⟨rfl, h0, _⟩ | ⟨_, m, _, rfl, _⟩ <;> exact ⟨_, _, rfl⟩
                have hlo2 := DevLoose W _ _ y pw3 (D2.crashD []) (by rw [H2.out.2.2.2.2.1]; simp) (by have := H2.out.2.2.2.2.2.2; omega) hs15.p2
                rw [H2.out.2.2.2.2.1] at hlo2
                clear hlo hs14
                go_wp2_with fail
                refine hlo2.mono ?_
                rintro e w12 ⟨v2, rfl, hs16⟩
                obtain ⟨av2, mv2, rfl⟩ : ∃ av mv, v2 = .slice av 0 mv := by
                  rcases S.vec hs16 with ⟨rfl, h0, _⟩ | ⟨_, m, _, rfl, _⟩ <;> exact ⟨_, _, rfl⟩
                have haw := Law08Awake W w12 _ hs16.left.left.left.left.left.left
                clear hlo2 hs15
                go_wp2_with fail
                refine haw.mono ?_
                rintro e w13 ⟨rfl, hs17⟩
                go_wp2
                go_ret
                exact ⟨rfl, hs17⟩
end Go.Proofs.Ytnkjkkbjplneeaa
