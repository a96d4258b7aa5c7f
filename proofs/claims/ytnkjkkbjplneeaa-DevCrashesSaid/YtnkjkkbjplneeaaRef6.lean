/-
  What the document's Loose does.
-/
import Derived.Test.YtnkjkkbjplneeaaRef5
import Derived.Test.YtnkjkkbjplneeaaDevLoose
namespace Go.Proofs.Ytnkjkkbjplneeaa
open Go.RowKit Go.SL
set_option maxRecDepth 100000
set_option linter.unusedSimpArgs false
set_option linter.unusedVariables false
section
variable (W0 w : World) (F : HProp) (e q : Nat) (D : DevA)
theorem looseN_le (D : DevA) (n : Nat) : (D.looseN n).length ≤ n := by
  unfold DevA.looseN
  have := List.length_filterMap_le D.looseAt (List.range n)
  simpa using this
set_option maxHeartbeats 2000000 in
theorem RefLoose (hs : S W0 w (F * rdevO e q D)) :
    Calls Try.prog 19 #[.pointer (some ⟨e, 0, none⟩)] w fun e' w' => ∃ v, e' = .returned v ∧ S W0 w' (F * rdevO e q D * vecB 86 2 v D.looseL.length (flatL D.looseL)) := by
  obtain ⟨g, hl, hoX, hsg⟩ := rdevO.open hs
  obtain ⟨c0, c1, c2, c3, fr⟩ := rdevG.cells hsg
  have hlenD : D.secs.length ≤ 4096 := hoX.2.2.1
  have HD := Lib.hid (⟨hl, hoX⟩ : _ ∧ _)
  unfold DevA.looseL
  generalize hns : D.secs.length = ns at *
  have HNS := Lib.hid hns
  have hs0 : S W0 w (F * vecB 86 2 (.slice none 0 0) (D.looseN 0).length (flatL (D.looseN 0)) * rdevG e q D g) := hsg.to_vec_nil.p1
  clear hs c0 c1 c2 c3 fr hsg hoX hl hns
  go_enter Try.func19, Try.ntmps19
  go_wp2
  go_loopw [3, 4] (fun v vi wr => ∃ i : Nat, vi = .int .i64 i ∧ i ≤ ns ∧ S W0 wr (F * vecB 86 2 v (D.looseN i).length (flatL (D.looseN i)) * rdevG e q D g)) (fun _ vi _ => ns - (intOf vi).toNat)
  case atStart => exact ⟨0, rfl, by omega, hs0⟩
  case round =>
    clear hs0
    obtain ⟨i, rfl, hi, hs1⟩ := hrel
    obtain ⟨c0, c1, c2, c3, fr⟩ := rdevG.cells hs1
    rw [HNS.out] at c1
    clear c0 c2 c3 fr
    by_cases hlt : i < ns
    · obtain ⟨s, hsi⟩ : ∃ s, D.secs[i]? = some s := ⟨D.secs[i]'(by rw [HNS.out]; exact hlt), by simp [HNS.out, hlt]⟩
      obtain ⟨ad, m, dl, _⟩ := rdev_lv hs1 (by have := HD.out.1; rw [HNS.out]; exact this) hsi
      have i0 : (0 : Int) ≤ i := by omega
      have i1 : (i : Int) < ns := by omega
      have hsucc := D.looseN_succ i
      by_cases hlo : s.loose = []
      · have hat : D.looseAt i = none := by simp [DevA.looseAt, hsi, hlo]
        rw [hat] at hsucc
        simp only [Option.toList, List.append_nil] at hsucc
        have hs2 : S W0 wr (F * vecB 86 2 u3 (D.looseN (i + 1)).length (flatL (D.looseN (i + 1))) * rdevG e q D g) := by rw [hsucc]; exact hs1
        rw [hlo] at dl
        simp only [List.length_nil] at dl
        clear hsucc hs1
        go_wp2
        go_roundw
        case rel => exact ⟨i + 1, by go_num, by omega, hs2⟩
        case measure => simp [intOf]; omega
      · have hpos : 0 < s.loose.length := by cases hx : s.loose with | nil => exact absurd hx hlo | cons a l => simp
        have hpos' : (0 : Int) < s.loose.length := by omega
        have hat : D.looseAt i = some ((i : Int), (s.loose.length : Int)) := by simp [DevA.looseAt, hsi, hlo]
        rw [hat] at hsucc
        simp only [Option.toList] at hsucc
        have hsucc2 := Lib.hid hsucc
        have hle := looseN_le D i
        generalize hsn : s.loose.length = sn at *
        have hk2 := (hs1.p1.alloc (.cells #[.int .i64 (i : Int), .int .i64 sn] 86)).p1
        have hk3 : S W0 (wr.alloc (.cells #[.int .i64 (i : Int), .int .i64 sn] 86)) (F * rdevG e q D g * blk wr.heap.size (.cells #[.int .i64 (i : Int), .int .i64 sn] 86 (0, 0)) * vecB 86 2 u3 (D.looseN i).length (flatL (D.looseN i))) := hk2.perm
        have hrd : Reads (wr.alloc (.cells #[.int .i64 (i : Int), .int .i64 sn] 86)) 2 (.slice (some ⟨wr.heap.size, 0, none⟩) 1 1) 1 [.int .i64 (i : Int), .int .i64 sn] := by
          refine ⟨rfl, .inr ⟨_, _, _, rfl, Nat.le_refl _, by simp [maxLen], fun j u hj => ?_⟩⟩
          rw [cell_at hk3.p1.heap]
          simpa using hj
        have HRD := Lib.hid hrd
        clear hk2 hrd hs1 hsi hsucc hat hlo
        go_wp2_with (at_builtin; refine wp_append_S _ _ TLoose rfl rfl hk3 HRD.out rfl rfl ?_ ?_ ?_ ?_)
        · simp [Value.oneCell']
        · simp only [maxLen]; omega
        · omega
        intro v w3 hk4 _
        have hk5 : S W0 w3 (F * vecB 86 2 v (D.looseN (i + 1)).length (flatL (D.looseN (i + 1))) * rdevG e q D g) := by
          have e1 : flatL (D.looseN i ++ [((i : Int), (sn : Int))]) = flatL (D.looseN i) ++ [.int .i64 (i : Int), .int .i64 sn] := by simp [flatL, loV]
          rw [hsucc2.out, e1, List.length_append, List.length_singleton]
          exact (hk4.p1.left).perm
        clear hk4 hk3
        go_wp2
        go_roundw
        case rel => exact ⟨i + 1, by go_num, by omega, hk5⟩
        case measure => simp [intOf]; omega
    · have hin : ns = i := by omega
      subst hin
      have hfin := rdevO.shut hs1 (by have := HD.out.1; rw [HNS.out]; exact this) HD.out.2
      clear hs1
      go_wp2
      go_ret
      exact ⟨_, rfl, hfin.p1⟩
end
end Go.Proofs.Ytnkjkkbjplneeaa
