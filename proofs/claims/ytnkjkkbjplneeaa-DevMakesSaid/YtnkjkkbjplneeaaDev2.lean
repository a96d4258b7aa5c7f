/-
  What Peek, Read, Write, Fail and Rotten do.
-/
import Derived.Test.YtnkjkkbjplneeaaDev1
import Derived.Test.YtnkjkkbjplneeaaBytes
namespace Go.Proofs.Ytnkjkkbjplneeaa
open Go.RowKit Go.SL
set_option maxRecDepth 100000
set_option linter.unusedSimpArgs false
set_option linter.unusedVariables false
namespace DevA
def standsAt (D : DevA) (at_ : Int) : List UInt8 := ((D.secs[at_.toNat]?).map Sec.stands).getD []
def peekB (D : DevA) (at_ : Int) : List UInt8 := if D.has at_ = true then D.standsAt at_ else []
/-- What is read: an error, the octets, and the device behind it. -/
def readE (p : PowA) (D : DevA) (at_ : Int) : Int := if p.off = true then 80 else if D.has at_ = false then 3 else if (D.reads % 2 == 1) = true then 81 else 0
def readB (p : PowA) (D : DevA) (at_ : Int) : List UInt8 := if p.off = true then [] else if D.has at_ = false then [] else if (D.reads % 2 == 1) = true then [] else D.standsAt at_
def readS (p : PowA) (D : DevA) (at_ : Int) : DevA := if p.off = true then D else if D.has at_ = false then D else { D with reads := D.reads / 2 }
end DevA
theorem has_get {D : DevA} {at_ : Int} (h : D.has at_ = true) : ∃ (i : Nat) (s : Sec), at_ = i ∧ D.secs[i]? = some s ∧ D.standsAt at_ = s.stands := by
  simp [DevA.has] at h
  refine ⟨at_.toNat, D.secs[at_.toNat]'(by omega), by omega, by simp [show at_.toNat < D.secs.length by omega], ?_⟩
  simp [DevA.standsAt, show at_.toNat < D.secs.length by omega]
section
variable (W0 w : World) (F : HProp) (b pw : Nat) (D : DevA)
theorem stands_len {i : Nat} {s : Sec} (hi : D.secs[i]? = some s) (hs : S W0 w (F * devO b pw D)) : s.stands.length = 64 := by
  obtain ⟨g, ho, _⟩ := devO.open hs
  exact (ho.2.2.2.2.2.2.2 s (List.mem_of_getElem? hi)).stands
set_option maxHeartbeats 400000 in
theorem DevPeek (at_ : Int) (hs : S W0 w (F * devO b pw D)) :
    Calls Try.prog 20 #[.pointer (some ⟨b, 0, none⟩), .int .i64 at_] w fun e w' => ∃ v, e = .returned (.tuple #[v, .bool (D.has at_)]) ∧ S W0 w' (F * devO b pw D * bytesV v 5 (D.peekB at_)) := by
  have hreal := DevReal W0 w F b pw D hs
  have hhas := DevHas W0 w F b pw D at_ hs
  cases hb : D.has at_ with
  | false =>
    rw [hb] at hhas
    go_enter Try.func20, Try.ntmps20
    go_wp2_with (first | (go_at_call 45; refine (hreal).mono ?_; rintro e w' ⟨rfl, rfl⟩) | (go_at_call 34; refine (hhas).mono ?_; rintro e w' ⟨rfl, rfl⟩))
    go_ret2
    refine ⟨_, rfl, ?_⟩
    simp only [DevA.peekB, hb, Bool.false_eq_true, if_false]
    exact hs.to_vec_nil
  | true =>
    rw [hb] at hhas
    obtain ⟨i, s, rfl, hi, hst⟩ := has_get hb
    have hstands := DevStands W0 w F b pw D i s hi hs
    have hp : D.peekB (i : Int) = s.stands := by simp [DevA.peekB, hb, hst]
    have hlen := stands_len W0 w F b pw D hi hs
    rw [hp]
    clear hp hi hst hb
    have HL : s.stands.length ≤ 140737488355328 := by omega
    clear hlen
    go_enter Try.func20, Try.ntmps20
    go_wp2_with (first | (go_at_call 45; refine (hreal).mono ?_; rintro e w' ⟨rfl, rfl⟩) | (go_at_call 34; refine (hhas).mono ?_; rintro e w' ⟨rfl, rfl⟩) | (go_at_call 46; refine (hstands).mono ?_; rintro e w' ⟨v, rfl, rfl, hr⟩) | (go_at_call 36; refine (BytesClone W0 _ _ _ _ hr HL hs).mono ?_; rintro e w' ⟨v', rfl, hs'⟩))
    go_ret2
    exact ⟨_, rfl, hs'⟩
set_option maxHeartbeats 1000000 in
theorem DevRead (p : PowA) (at_ : Int) (hs : S W0 w (F * powO pw p * devO b pw D)) :
    Calls Try.prog 27 #[.pointer (some ⟨b, 0, none⟩), .int .i64 at_] w fun e w' => ∃ v, e = .returned (.tuple #[v, .int .i64 (D.readE p at_)]) ∧ S W0 w' (F * powO pw p * devO b pw (D.readS p at_) * bytesV v 5 (D.readB p at_)) := by
  have hready := DevReady W0 w F b pw D p hs
  have hhas := DevHas W0 w _ b pw D at_ hs
  unfold DevA.readE DevA.readB DevA.readS
  by_cases h1 : p.off = true
  · simp only [readyE, h1, if_true] at hready ⊢
    go_enter Try.func27, Try.ntmps27
    go_wp2_with (first | (go_at_call 32; refine (hready).mono ?_; rintro e w' ⟨rfl, rfl⟩))
    go_ret2
    exact ⟨_, rfl, hs.to_vec_nil⟩
  simp only [readyE, h1, if_false] at hready ⊢
  cases h2 : D.has at_ with
  | false =>
    rw [h2] at hhas
    simp only [if_true]
    go_enter Try.func27, Try.ntmps27
    go_wp2_with (first | (go_at_call 32; refine (hready).mono ?_; rintro e w' ⟨rfl, rfl⟩) | (go_at_call 34; refine (hhas).mono ?_; rintro e w' ⟨rfl, rfl⟩))
    go_ret2
    exact ⟨_, rfl, hs.to_vec_nil⟩
  | true =>
    rw [h2] at hhas
    simp only [Bool.true_eq_false, if_false]
    obtain ⟨g, ho, hsg⟩ := devO.open hs
    obtain ⟨c0, c1, c2, c3, c4, c5, fr⟩ := devG.cells hsg
    have hrd : D.reads < 18446744073709551616 := ho.2.2.2.2.1
    have hnext := PatNext w b 4 D.reads c4 (fr 4) hrd
    clear ho hsg
    cases h5 : (D.reads % 2 == 1) with
    | true =>
      rw [h5] at hnext
      simp only [if_true]
      go_enter Try.func27, Try.ntmps27
      go_wp2_with (first | (go_at_call 32; refine (hready).mono ?_; rintro e w' ⟨rfl, rfl⟩) | (go_at_call 34; refine (hhas).mono ?_; rintro e w' ⟨rfl, rfl⟩) | (go_at_call 35; refine (hnext).mono ?_; rintro e w' ⟨rfl, rfl⟩))
      go_ret2
      exact ⟨_, rfl, (devO.setReads hs (n := D.reads / 2) (by omega)).to_vec_nil⟩
    | false =>
      rw [h5] at hnext
      simp only [Bool.false_eq_true, if_false]
      obtain ⟨i, s, rfl, hi, hst⟩ := has_get h2
      have hlen := stands_len W0 w _ b pw D hi hs
      have hs1 := devO.setReads hs (n := D.reads / 2) (by omega)
      have hstands := DevStands W0 _ _ b pw { D with reads := D.reads / 2 } i s hi hs1
      rw [hst]
      have HL : s.stands.length ≤ 140737488355328 := by omega
      clear hlen hst hi h2 h5
      go_enter Try.func27, Try.ntmps27
      go_wp2_with (first | (go_at_call 32; refine (hready).mono ?_; rintro e w' ⟨rfl, rfl⟩) | (go_at_call 34; refine (hhas).mono ?_; rintro e w' ⟨rfl, rfl⟩) | (go_at_call 35; refine (hnext).mono ?_; rintro e w' ⟨rfl, rfl⟩) | (go_at_call 46; refine (hstands).mono ?_; rintro e w' ⟨v, rfl, rfl, hr⟩) | (go_at_call 36; refine (BytesClone W0 _ _ _ _ hr HL hs1).mono ?_; rintro e w' ⟨v', rfl, hs'⟩))
      go_ret2
      exact ⟨_, rfl, hs'⟩
set_option maxHeartbeats 400000 in
theorem DevFail (x y : Nat) (hx : x < 18446744073709551616) (hy : y < 18446744073709551616) (hs : S W0 w (F * devO b pw D)) :
    Calls Try.prog 25 #[.pointer (some ⟨b, 0, none⟩), .int .u64 (x : Int), .int .u64 (y : Int)] w fun e w' => e = .returned (.tuple #[]) ∧ S W0 w' (F * devO b pw { D with reads := x, writes := y }) := by
  have hreal := DevReal W0 w F b pw D hs
  have hs1 := devO.setWrites (devO.setReads hs hx) hy
  obtain ⟨g, ho, hsg⟩ := devO.open hs
  obtain ⟨c0, c1, c2, c3, c4, c5, fr⟩ := devG.cells hsg
  clear ho hsg
  go_enter Try.func25, Try.ntmps25
  go_wp2_with (first | (go_at_call 45; refine (hreal).mono ?_; rintro e w' ⟨rfl, rfl⟩))
  go_end0
  exact ⟨rfl, hs1⟩
theorem zero_int (w : World) : (zeroValue 3).run Try.prog w = .ok (.int .i64 0) w := by kernel_rfl
namespace DevA
def rottenAt (D : DevA) (at_ : Int) : Bool := decide (0 ≤ at_ ∧ (D.secs[at_.toNat]?).map (·.rotten) = some true)
end DevA
theorem rot_lookup {g : DevG} (ho : g.Ok D) (at_ : Int) : (g.kvr.lookup at_).getD (.int .i64 0) = .int .i64 (if D.rottenAt at_ = true then 1 else 0) := by
  rw [ho.2.2.2.1]
  unfold DevA.rottenAt
  by_cases h : 0 ≤ at_ ∧ (D.secs[at_.toNat]?).map (·.rotten) = some true
  · simp only [h, and_self, if_true, decide_true, Option.getD_some]
  · simp only [h, if_false, decide_false, Bool.false_eq_true, Option.getD_none]
theorem run_lookup_rot {g : DevG} {es : Array MapEntry} {clock : Nat} {rm : Nat} (ho : g.Ok D) (h : w.heap[rm]? = some (.map es clock)) (hmo : MapOk .i64 es clock g.kvr) (at_ : Int) :
    (Instr.lookup 70 (.map (some rm)) (.int .i64 at_) false).run Try.prog w = .ok (.int .i64 (if D.rottenAt at_ = true then 1 else 0)) w := by
  rw [run_lookup_int (P := Try.prog) Try.underlying70 Try.underlying3 (zero_int w) h hmo at_, rot_lookup D ho]
set_option maxHeartbeats 400000 in
theorem DevRotten (at_ : Int) (hs : S W0 w (F * devO b pw D)) :
    Calls Try.prog 29 #[.pointer (some ⟨b, 0, none⟩), .int .i64 at_] w fun e w' => e = .returned (.bool (D.rottenAt at_)) ∧ w' = w := by
  have hreal := DevReal W0 w F b pw D hs
  obtain ⟨g, ho, hsg⟩ := devO.open hs
  obtain ⟨c0, c1, c2, c3, c4, c5, fr⟩ := devG.cells hsg
  obtain ⟨es, clock, hmo, h2⟩ := S.map (devG.top hsg).p3
  have hl := run_lookup_rot w D ho h2.heap hmo at_
  clear ho hsg h2 hmo
  cases hb : D.rottenAt at_ <;> rw [hb] at hl <;> simp only [if_true, Bool.false_eq_true, if_false] at hl
  all_goals
    go_enter Try.func29, Try.ntmps29
    go_wp2_with (first | (go_at_call 45; refine (hreal).mono ?_; rintro e w' ⟨rfl, rfl⟩))
    go_ret
    exact ⟨rfl, rfl⟩
end
end Go.Proofs.Ytnkjkkbjplneeaa
