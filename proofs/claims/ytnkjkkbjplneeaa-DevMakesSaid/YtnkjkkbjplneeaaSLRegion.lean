/-
  A statement whose order Go leaves open: operations that read are taken in the text's order, if what they read stays as long as they have not come up: a condition on the world that hangs on what has come up.
-/
import Derived.Test.YtnkjkkbjplneeaaSL
import Derived.OrdersHeld
import Derived.RegionTactic
namespace Go.SL
open Go.RowKit
set_option linter.unusedSimpArgs false
set_option linter.unusedVariables false
section
variable {P : Program} {ops : Array Oper} {Q : Exit → Act → World → Prop} {md : Region.Mode} {S : Array Bool → World → Prop}
def Closed (md : Region.Mode) (ops : Array Oper) (listed : Array Bool) : Prop :=
  listed.size = ops.size ∧ ∀ j oj, ops[j]? = some oj → listed.getD j false = true → ∀ e ∈ oj.after, Region.binds md e = true → listed.getD e.on false = true
/-- 'j' waits for 'i': as long as i has not come up, j has not. -/
def waits (md : Region.Mode) (ops : Array Oper) (j i : Nat) : Bool := match ops[j]? with | some oj => oj.after.any fun e => Region.binds md e && e.on == i | none => true
theorem getD_bounds {listed : Array Bool} {i : Nat} (h : listed.getD i true = false) : listed.getD i false = false := by
  rcases Nat.lt_or_ge i listed.size with h' | h'
  · simp [h'] at h ⊢; exact h
  · simp [Array.getElem?_eq_none h'] at h
theorem Closed.not {listed : Array Bool} (h : Closed md ops listed) {i j : Nat} (hw : waits md ops j i = true) (hi : listed.getD i true = false) (hs : j < ops.size) : listed.getD j false = false := by
  cases hj : listed.getD j false with
  | false => rfl
  | true =>
    unfold waits at hw
    cases ho : ops[j]? with
    | none => simp [Array.getElem?_eq_none_iff] at ho; omega
    | some oj =>
      rw [ho] at hw
      obtain ⟨e, he, hb⟩ := Array.any_eq_true'.1 hw
      simp only [Bool.and_eq_true, beq_iff_eq] at hb
      have := h.2 j oj ho hj e he hb.1
      rw [hb.2, getD_bounds hi] at this
      cases this
/-- .. by way of others too. -/
def waits2 (md : Region.Mode) (ops : Array Oper) : Nat → Nat → Nat → Bool
  | 0, j, i => waits md ops j i
  | n + 1, j, i => waits md ops j i || (match ops[j]? with | some oj => oj.after.any fun e => Region.binds md e && waits2 md ops n e.on i | none => false)
theorem Closed.not2 {listed : Array Bool} (h : Closed md ops listed) {i : Nat} (hi : listed.getD i true = false) : ∀ (n j : Nat), waits2 md ops n j i = true → j < ops.size → listed.getD j false = false
  | 0, j, hw, hs => h.not hw hi hs
  | n + 1, j, hw, hs => by
    rw [waits2, Bool.or_eq_true] at hw
    rcases hw with hw | hw
    · exact h.not hw hi hs
    · cases ho : ops[j]? with
      | none => rw [ho] at hw; cases hw
      | some oj =>
        rw [ho] at hw
        obtain ⟨e, he, hb⟩ := Array.any_eq_true'.1 hw
        rw [Bool.and_eq_true] at hb
        cases hj : listed.getD j false with
        | false => rfl
        | true =>
          have h1 := h.2 j oj ho hj e he hb.1
          rcases Nat.lt_or_ge e.on ops.size with h2 | h2
          · rw [h.not2 hi n e.on hb.2 h2] at h1; cases h1
          · rw [Array.getD_eq_getD_getElem?, Array.getElem?_eq_none (by rw [h.1]; exact h2)] at h1; cases h1
theorem Closed.set {listed : Array Bool} (h : Closed md ops listed) {i : Nat} (hi : i ∈ Region.ready md ops listed) : Closed md ops (listed.setIfInBounds i true) := by
  obtain ⟨_, oi, hoi, hall⟩ := mem_ready.1 hi
  refine ⟨by simp [h.1], ?_⟩
  intro j oj hj hl e he hb
  by_cases hij : i = j
  · subst hij
    have : oj = oi := Option.some.inj (hj.symm.trans hoi)
    subst this
    exact getD_set_true (hall e he hb)
  · rw [getD_set_ne false hij] at hl
    exact getD_set_true (h.2 j oj hj hl e he hb)
theorem Closed.start : Closed md ops (Array.replicate ops.size false) := by
  refine ⟨by simp, ?_⟩
  intro j oj hj hl e he hb
  rcases Nat.lt_or_ge j ops.size with h | h
  · simp [h] at hl
  · simp [h] at hl
/-- In state 'a', wherever 'o' may still come up, it leaves 'v' and does nothing else. -/
def YieldsL (P : Program) (md : Region.Mode) (ops : Array Oper) (S : Array Bool → World → Prop) (i : Nat) (o : Oper) (v : Value) (a : Act) : Prop :=
  (Region.wanted o (yielded ops a.tmps) = true ∧ ∀ listed w, Closed md ops listed → listed.getD i true = false → S listed w → (execOp a.eval o).run P w = .ok (.value v) w) ∨
  (Region.wanted o (yielded ops a.tmps) = false ∧ v = undef)
theorem YieldsL.wpOp {i : Nat} {o : Oper} {v : Value} {a : Act} {listed : Array Bool} (hi : ops[i]? = some o) (hy : YieldsL P md ops S i o v a) (hc : Closed md ops listed) (hl : listed.getD i true = false)
    {K : Act → World → Prop} {w : World} (hS : S listed w) (h : K (a.put o.dst v) w) : wpOp P ops Q i K a w := by
  unfold Go.wpOp
  simp only [hi]
  rcases hy with ⟨hw, hv⟩ | ⟨hw, rfl⟩
  · simp only [hw, if_true, Oper.wp, hv listed w hc hl hS, Oper.upon]; exact .inl h
  · simp only [hw, Bool.false_eq_true, if_false]; exact h
theorem YieldsL.of_same {i : Nat} {o : Oper} {v : Value} {a a' : Act} (hy : YieldsL P md ops S i o v a) (he : execOp a'.eval o = execOp a.eval o)
    (hw : Region.wanted o (yielded ops a'.tmps) = Region.wanted o (yielded ops a.tmps)) : YieldsL P md ops S i o v a' := by
  unfold YieldsL at *
  rw [he, hw]
  exact hy
theorem wpOp_putL {i j : Nat} {oi oj : Oper} {v : Value} (hj : ops[j]? = some oj) (hap : oi.apart ops oj = true)
    (hsi : ∀ cs b, oi.op ≠ .select cs b) (hsj : ∀ cs b, oj.op ≠ .select cs b)
    (hQ : ∀ c a w, Q (.panic c) (a.put oi.dst v) w → Q (.panic c) a w) {K : Act → World → Prop} {a : Act} {w : World}
    (hy : YieldsL P md ops S i oi v a) (h : wpOp P ops Q j K (a.put oi.dst v) w) :
    wpOp P ops Q j (fun a' w' => YieldsL P md ops S i oi v a' ∧ K (a'.put oi.dst v) w') a w := by
  obtain ⟨h1, h2, h3⟩ := Oper.apart_spec hap
  have keep : ∀ (a : Act), YieldsL P md ops S i oi v a → ∀ u, YieldsL P md ops S i oi v (a.put oj.dst u) := fun a hy u =>
    hy.of_same (execOp_put oi hsi a oj.dst u h3) (wanted_put oi a oj.dst u h3)
  have keepD : ∀ d, YieldsL P md ops S i oi v { a with defers := d :: a.defers } := fun d => hy.of_same rfl rfl
  unfold wpOp at *
  simp only [hj] at *
  rw [wanted_put oj a oi.dst v h1] at h
  split
  · rename_i hw
    simp only [hw, if_true] at h
    rcases h with h | ⟨hasks, hlets⟩
    case inr => exact .inr ⟨by unfold Oper.asks at *; rw [execOp_put oj hsj a oi.dst v h1] at hasks; exact hasks, hlets⟩
    refine .inl ?_
    unfold Oper.wp at *
    rw [execOp_put oj hsj a oi.dst v h1] at h
    generalize (execOp a.eval oj).run P w = r at *
    cases r with
    | ok n w' =>
      cases n <;> simp only [Oper.upon] at h ⊢
      case value u => exact ⟨keep a hy u, by rw [← Act.put_comm a v u h2]; exact h⟩
      case skip => exact ⟨keep a hy _, by rw [← Act.put_comm a v undef h2]; exact h⟩
      case defer d =>
        refine ⟨keep _ (keepD d) _, ?_⟩
        rw [← Act.put_comm _ v undef h2, ← Act.put_defers]
        exact h
      case enter f args =>
        refine Calls.mono h fun e w'' he => ?_
        cases e with
        | returned u => exact ⟨keep a hy u, by rw [← Act.put_comm a v u h2]; exact he⟩
        | panicked c => exact hQ _ _ _ he
        | outgrown => exact he
      case row row args => exact Rows.mono h fun u w'' he => ⟨keep a hy u, by rw [← Act.put_comm a v u h2]; exact he⟩
    | halt x w' =>
      cases x <;> simp only [Oper.upon] at h ⊢
      case panic u => exact hQ _ _ _ h
  · rename_i hw
    simp only [hw] at h
    exact ⟨keep a hy _, by rw [← Act.put_comm a v undef h2]; exact h⟩
/-- Whatever order is picked from here on; behind every operation S holds of what has come up by then. -/
def wpAnyS (P : Program) (md : Region.Mode) (ops : Array Oper) (Q : Exit → Act → World → Prop) (S : Array Bool → World → Prop) : Nat → Array Bool → Act → World → Prop
  | 0, listed, a, w => Region.ready md ops listed = [] ∧ Q .normal a w
  | fuel + 1, listed, a, w =>
    (Region.ready md ops listed = [] → Q .normal a w) ∧
    ∀ i ∈ Region.ready md ops listed, wpOp P ops Q i (fun a' w' => S (listed.setIfInBounds i true) w' ∧ wpAnyS P md ops Q S fuel (listed.setIfInBounds i true) a' w') a w
theorem wpAny_of_S : ∀ (fuel : Nat) (listed : Array Bool) (a : Act) (w : World), wpAnyS P md ops Q S fuel listed a w → wpAny P md ops Q fuel listed a w
  | 0, _, _, _, h => h
  | fuel + 1, _, _, _, h => ⟨h.1, fun i hi => wpOp_mono (fun a' w' h' => wpAny_of_S fuel _ a' w' h'.2) (h.2 i hi)⟩
theorem wpAnyS_first {i : Nat} {oi : Oper} {v : Value} (hi : ops[i]? = some oi) (hsel : ∀ (j : Nat) (o : Oper) cs b, ops[j]? = some o → o.op ≠ .select cs b)
    (hQ : ∀ c a w, Q (.panic c) (a.put oi.dst v) w → Q (.panic c) a w) (hSi : ∀ listed w, listed.getD i true = false → (S listed w ↔ S (listed.setIfInBounds i true) w)) :
    ∀ (fuel : Nat) (listed : Array Bool) (a : Act) (w : World), Closed md ops listed →
      (∀ j oj, ops[j]? = some oj → j ≠ i → listed.getD j true = false → (∀ e ∈ oj.after, Region.binds md e = true → e.on ≠ i) → oi.apart ops oj = true) →
      i ∈ Region.ready md ops listed → YieldsL P md ops S i oi v a → S listed w →
      wpAnyS P md ops Q S fuel (listed.setIfInBounds i true) (a.put oi.dst v) w → wpAnyS P md ops Q S (fuel + 1) listed a w := by
  intro fuel
  induction fuel with
  | zero =>
    intro listed a w hc _ hr hy hS H
    have hun := (mem_ready.1 hr).1
    refine ⟨fun h => (by rw [h] at hr; cases hr), fun j hj => ?_⟩
    by_cases hji : j = i
    · subst hji; exact hy.wpOp hi hc hun hS ⟨(hSi _ _ hun).1 hS, H⟩
    · have := ready_mono hj hji
      rw [H.1] at this
      cases this
  | succ fuel ih =>
    intro listed a w hc hfree hr hy hS H
    have hun := (mem_ready.1 hr).1
    refine ⟨fun h => (by rw [h] at hr; cases hr), fun j hj => ?_⟩
    by_cases hji : j = i
    · subst hji; exact hy.wpOp hi hc hun hS ⟨(hSi _ _ hun).1 hS, H⟩
    · have h1 := H.2 j (ready_mono hj hji)
      obtain ⟨hjun, oj, hoj, hall⟩ := mem_ready.1 hj
      have hnot : ∀ e ∈ oj.after, Region.binds md e = true → e.on ≠ i := fun e he hb heq => by
        have h1 := hall e he hb
        rw [heq, getD_bounds hun] at h1
        cases h1
      have h2 := wpOp_putL hoj (hfree j oj hoj hji hjun hnot) (fun cs b => hsel i oi cs b hi) (fun cs b => hsel j oj cs b hoj) hQ hy h1
      have hfree' : ∀ k ok, ops[k]? = some ok → k ≠ i → (listed.setIfInBounds j true).getD k true = false →
          (∀ e ∈ ok.after, Region.binds md e = true → e.on ≠ i) → oi.apart ops ok = true := fun k ok hk hki hun hno => by
        refine hfree k ok hk hki ?_ hno
        by_cases hjk : j = k
        · subst hjk; exact hjun
        · rw [getD_set_ne true hjk] at hun; exact hun
      refine wpOp_mono (fun a' w' h3 => ?_) h2
      have hun' : (listed.setIfInBounds j true).getD i true = false := by rw [getD_set_ne true hji]; exact hun
      have hS' : S (listed.setIfInBounds j true) w' := by
        have := h3.2.1
        rw [Array.setIfInBounds_comm _ _ (Ne.symm hji)] at this
        exact (hSi _ _ hun').2 this
      refine ⟨hS', ih (listed.setIfInBounds j true) a' w' (hc.set hj) hfree' (ready_mono hr (Ne.symm hji)) h3.1 hS' ?_⟩
      rw [Array.setIfInBounds_comm _ _ hji]
      exact h3.2.2
/-- What must hold as long as certain operations have not come up. -/
def SM (m : List (Nat × (World → Prop))) (listed : Array Bool) (w : World) : Prop := ∀ p ∈ m, listed.getD p.1 true = false → p.2 w
theorem SM.set {m : List (Nat × (World → Prop))} {i : Nat} (hm : (m.map (·.1)).contains i = false) (listed : Array Bool) (w : World) : SM m listed w ↔ SM m (listed.setIfInBounds i true) w := by
  have hne : ∀ p ∈ m, i ≠ p.1 := by
    intro p hp e
    have : (m.map (·.1)).contains i = true := by simp; exact ⟨p.2, by rw [e]; exact hp⟩
    rw [hm] at this; cases this
  unfold SM
  constructor <;> intro h p hp hl
  · exact h p hp (by rw [getD_set_ne true (hne p hp)] at hl; exact hl)
  · exact h p hp (by rw [getD_set_ne true (hne p hp)]; exact hl)
theorem SM.weaken {m : List (Nat × (World → Prop))} {i : Nat} {listed : Array Bool} {w : World} (h : ∀ p ∈ m, p.1 ≠ i → listed.getD p.1 true = false → p.2 w) (hi : i < listed.size) : SM m (listed.setIfInBounds i true) w := by
  intro p hp hl
  by_cases e : i = p.1
  · subst e; simp [hi] at hl
  · rw [getD_set_ne true e] at hl; exact h p hp (Ne.symm e) hl
/-- The rest of a region, all that is known of it at hand. -/
def WS (P : Program) (ops : Array Oper) (Q : Exit → Act → World → Prop) (m : List (Nat × (World → Prop))) (fuel : Nat) (listed : Array Bool) (a : Act) (w : World) : Prop :=
  Closed .any ops listed → SM m listed w → wpAnyS P .any ops Q (SM m) fuel listed a w
variable {m : List (Nat × (World → Prop))}
theorem wp_region_S {id : Nat} {a : Act} {w : World} (m : List (Nat × (World → Prop))) (hm : P.follows .mixedOrders = true) (h0 : ∀ p ∈ m, p.2 w.drew)
    (h : WS P ops Q m ops.size (Array.replicate ops.size false) a w.drew) : (Code.region id ops true).wp P Q a w :=
  wp_region_any hm (wpAny_of_S _ _ _ _ (h Closed.start fun p hp _ => h0 p hp))
theorem WS.take {i : Nat} {oi : Oper} {v : Value} {fuel : Nat} {listed : Array Bool} {a : Act} {w : World} (hi : ops[i]? = some oi) (hs : Region.noSelect ops = true)
    (hf : Region.free .any ops listed i = true) (hr : (Region.ready .any ops listed).contains i = true) (hm : (m.map (·.1)).contains i = false)
    (hQ : ∀ c a w, Q (.panic c) (a.put oi.dst v) w → Q (.panic c) a w) (hy : YieldsL P .any ops (SM m) i oi v a)
    (h : WS P ops Q m fuel (listed.setIfInBounds i true) (a.put oi.dst v) w) : WS P ops Q m (fuel + 1) listed a w := fun hc hS =>
  wpAnyS_first hi (Region.noSelect_spec hs) hQ (fun l w _ => SM.set hm l w) fuel listed a w hc (Region.free_spec hi hf) (by simpa using hr) hy hS
    (h (hc.set (by simpa using hr)) ((SM.set hm listed w).1 hS))
/-- An operation that hangs on no memory. -/
theorem WS.takeP {i : Nat} {oi : Oper} {v : Value} {fuel : Nat} {listed : Array Bool} {a : Act} {w : World} (hi0 : ops.toList[i]? = some oi) (hs : Region.noSelect ops = true)
    (hf : Region.free .any ops listed i = true) (hr : (Region.ready .any ops listed).contains i = true) (hm : (m.map (·.1)).contains i = false)
    (hQ : ∀ c a w, Q (.panic c) (a.put oi.dst v) w → Q (.panic c) a w) (hw : Region.wanted oi (yielded ops a.tmps) = true) (hy : ∀ w, (execOp a.eval oi).run P w = .ok (.value v) w)
    (h : WS P ops Q m fuel (listed.setIfInBounds i true) (a.put oi.dst v) w) : WS P ops Q m (fuel + 1) listed a w :=
  h.take (by rw [Array.getElem?_toList] at hi0; exact hi0) hs hf hr hm hQ (.inl ⟨hw, fun _ w _ _ _ => hy w⟩)
/-- One that reads what stays till number j comes up. -/
theorem WS.takeR {i : Nat} {oi : Oper} {v : Value} {fuel : Nat} {listed : Array Bool} {a : Act} {w : World} (j : Nat) (R : World → Prop) (hj : (j, R) ∈ m) (hi0 : ops.toList[i]? = some oi) (hs : Region.noSelect ops = true)
    (hf : Region.free .any ops listed i = true) (hr : (Region.ready .any ops listed).contains i = true) (hm : (m.map (·.1)).contains i = false) (hw8 : waits2 .any ops 8 j i = true) (hjl : decide (j < ops.size) = true)
    (hQ : ∀ c a w, Q (.panic c) (a.put oi.dst v) w → Q (.panic c) a w) (hw : Region.wanted oi (yielded ops a.tmps) = true) (hy : ∀ w, R w → (execOp a.eval oi).run P w = .ok (.value v) w)
    (h : WS P ops Q m fuel (listed.setIfInBounds i true) (a.put oi.dst v) w) : WS P ops Q m (fuel + 1) listed a w :=
  h.take (by rw [Array.getElem?_toList] at hi0; exact hi0) hs hf hr hm hQ (.inl ⟨hw, fun l w hc hl hS => hy w (hS (j, R) hj (by
    have h1 := hc.not2 hl 8 j hw8 (of_decide_eq_true hjl)
    have h2 : j < l.size := by rw [hc.1]; exact of_decide_eq_true hjl
    simp [h2] at h1 ⊢; exact h1))⟩)
/-- One whose guard says no. -/
theorem WS.skip {i : Nat} {oi : Oper} {fuel : Nat} {listed : Array Bool} {a : Act} {w : World} (hi0 : ops.toList[i]? = some oi) (hs : Region.noSelect ops = true)
    (hf : Region.free .any ops listed i = true) (hr : (Region.ready .any ops listed).contains i = true) (hm : (m.map (·.1)).contains i = false)
    (hQ : ∀ c a w, Q (.panic c) (a.put oi.dst undef) w → Q (.panic c) a w) (hw : Region.wanted oi (yielded ops a.tmps) = false)
    (h : WS P ops Q m fuel (listed.setIfInBounds i true) (a.put oi.dst undef) w) : WS P ops Q m (fuel + 1) listed a w :=
  h.take (by rw [Array.getElem?_toList] at hi0; exact hi0) hs hf hr hm hQ (.inr ⟨hw, rfl⟩)
/-- The one that may come up alone. -/
theorem WS.one {i : Nat} {oi : Oper} {fuel : Nat} {listed : Array Bool} {a : Act} {w : World} (hi0 : ops.toList[i]? = some oi) (hr : Region.ready .any ops listed = [i]) (hw : Region.wanted oi (yielded ops a.tmps) = true)
    (h : ∀ K : Act → World → Prop, (∀ a' w', SM m (listed.setIfInBounds i true) w' → WS P ops Q m fuel (listed.setIfInBounds i true) a' w' → K a' w') → oi.wp P a w K Q) : WS P ops Q m (fuel + 1) listed a w := fun hc hS => by
  have hi : ops[i]? = some oi := by rw [Array.getElem?_toList] at hi0; exact hi0
  refine ⟨fun h0 => (by rw [hr] at h0; cases h0), fun j hj => ?_⟩
  rw [hr, List.mem_singleton] at hj
  subst hj
  unfold wpOp
  simp only [hi, hw, if_true]
  exact .inl (h _ fun a' w' hS' hW => ⟨hS', hW (hc.set (by rw [hr]; simp)) hS'⟩)
theorem WS.done {listed : Array Bool} {a : Act} {w : World} {fuel : Nat} (hr : Region.ready .any ops listed = []) (h : Q .normal a w) : WS P ops Q m fuel listed a w := fun _ _ => by
  cases fuel with
  | zero => exact ⟨hr, h⟩
  | succ n => exact ⟨fun _ => h, by rw [hr]; simp⟩
end
end Go.SL
