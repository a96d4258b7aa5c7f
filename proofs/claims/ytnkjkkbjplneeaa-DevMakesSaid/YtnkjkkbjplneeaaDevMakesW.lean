/-
  The walk of DevMakes.
-/
import Derived.Test.YtnkjkkbjplneeaaDevNil
import Derived.Test.YtnkjkkbjplneeaaAwake
import Derived.Test.YtnkjkkbjplneeaaDevFlush
namespace Go.Proofs.Ytnkjkkbjplneeaa
open Go.RowKit Go.SL
set_option maxRecDepth 100000
set_option linter.unusedSimpArgs false
set_option linter.unusedVariables false
set_option maxHeartbeats 4000000 in
theorem DevMakesBad (W : World) (n at_ : Int) (hn : n < 0 ∨ 4096 < n) :
    Calls Try.prog 6 #[.int .i64 n, .int .i64 at_] W fun e w' => e = .returned (.bool true) ∧ S W w' emp := by
  have hp := PowNew W W emp (S.start W)
  rcases hn with hn | hn
  · go_enter Try.func6, Try.ntmps6
    go_wp2_with fail
    refine hp.mono ?_
    rintro e w2 ⟨pw, rfl, hs2⟩
    go_wp2_with fail
    refine (NewBad _ _ n (.inl hn)).mono ?_
    rintro e w2 ⟨rfl, rfl⟩
    go_wp2_with fail
    refine (NewNil _ _ (PowRealNil _)).mono ?_
    rintro e w2 ⟨rfl, rfl⟩
    have hs3 := hs2.alloc (.cells #[.bool false, .bool false, .int .i64 0, .int .i64 0] 67)
    have k1 := PowRealOdd _ _ (cell_at hs3.heap)
    go_wp2_with fail
    refine (NewNil _ _ k1).mono ?_
    rintro e _ ⟨rfl, rfl⟩
    clear k1
    have hs4 := hs3.left.alloc (.cells #[.pointer none, .slice none 0 0, .map none, .map none, .int .u64 0, .int .u64 0] 73)
    have hsz : (w2.alloc (.cells #[.bool false, .bool false, .int .i64 0, .int .i64 0] 67)).heap.size = w2.heap.size + 1 := by simp
    rw [hsz] at hs4
    clear hsz hs3
    go_wp2_with fail
    generalize w2.heap.size + 1 = ob at hs4 ⊢
    generalize w2.heap.size = ob0 at ⊢
    generalize ((w2.alloc (.cells #[.bool false, .bool false, .int .i64 0, .int .i64 0] 67)).alloc (.cells #[.pointer none, .slice none 0 0, .map none, .map none, .int .u64 0, .int .u64 0] 73)) = w3 at hs4 ⊢
    have hodd := RealOdd w3 ob (cell_at hs4.heap)
    have hnil := DevRealNil w3
    clear hs2
    refine (NotFail _ _ hnil 1 1).mono ?_
    rintro e w3 ⟨rfl, rfl⟩
    go_wp2_with fail
    refine (NotFail _ _ hodd 1 1).mono ?_
    rintro e w3 ⟨rfl, rfl⟩
    go_wp2_with fail
    refine (PowCutNil _).mono ?_
    rintro e w3 ⟨rfl, rfl⟩
    go_wp2_with fail
    refine (NotRead _ _ hnil at_).mono ?_
    rintro e w3 ⟨rfl, rfl⟩
    go_wp2_with fail
    refine (NotCrash _ _ hodd _ _ _ _).mono ?_
    rintro e w3 ⟨rfl, rfl⟩
    go_wp2_with fail
    refine (NotPeek _ _ hnil at_).mono ?_
    rintro e w3 ⟨rfl, rfl⟩
    go_wp2_with fail
    refine (NotWrite _ _ hnil at_ _ _ _).mono ?_
    rintro e w3 ⟨rfl, rfl⟩
    go_wp2_with fail
    refine (NotFlush _ _ hodd).mono ?_
    rintro e w3 ⟨rfl, rfl⟩
    go_wp2_with fail
    refine (NotRot _ _ hnil at_ _ _).mono ?_
    rintro e w3 ⟨rfl, rfl⟩
    go_wp2_with fail
    refine (NotRotten _ _ hodd at_).mono ?_
    rintro e w3 ⟨rfl, rfl⟩
    go_wp2_with fail
    refine (NotSize _ _ hnil).mono ?_
    rintro e w3 ⟨rfl, rfl⟩
    go_wp2_with fail
    refine (NotSize _ _ hodd).mono ?_
    rintro e w3 ⟨rfl, rfl⟩
    go_wp2_with fail
    refine (NotLoose _ _ hodd).mono ?_
    rintro e w3 ⟨rfl, rfl⟩
    go_wp2_with fail
    refine (PowDoneNil _).mono ?_
    rintro e w3 ⟨rfl, rfl⟩
    go_wp2_with fail
    refine (PowDownNil _).mono ?_
    rintro e w3 ⟨rfl, rfl⟩
    go_wp2_with fail
    refine (PowFuseNil _ 1).mono ?_
    rintro e w3 ⟨rfl, rfl⟩
    clear hnil hodd
    have hs5 := hs4.left
    clear hs4
    have haw := Law08Awake W w3 _ hs5
    go_wp2_with fail
    refine haw.mono ?_
    rintro e w4 ⟨rfl, hs6⟩
    go_wp2
    go_ret
    exact ⟨rfl, hs6.left⟩
  · have hn2 : ¬ n < 1 := by omega
    have hn3 : 0 ≤ n := by omega
    have hn4 : ¬ n < 0 := by omega
    have hn5 : decide (n ≤ 4096) = false := by simp; omega
    go_enter Try.func6, Try.ntmps6
    go_wp2_with fail
    refine hp.mono ?_
    rintro e w2 ⟨pw, rfl, hs2⟩
    go_wp2_with fail
    refine (NewBad _ _ n (.inr hn)).mono ?_
    rintro e w2 ⟨rfl, rfl⟩
    go_wp2_with fail
    refine (NewNil _ _ (PowRealNil _)).mono ?_
    rintro e w2 ⟨rfl, rfl⟩
    have hs3 := hs2.alloc (.cells #[.bool false, .bool false, .int .i64 0, .int .i64 0] 67)
    have k1 := PowRealOdd _ _ (cell_at hs3.heap)
    go_wp2_with fail
    refine (NewNil _ _ k1).mono ?_
    rintro e _ ⟨rfl, rfl⟩
    clear k1
    have hs4 := hs3.left.alloc (.cells #[.pointer none, .slice none 0 0, .map none, .map none, .int .u64 0, .int .u64 0] 73)
    have hsz : (w2.alloc (.cells #[.bool false, .bool false, .int .i64 0, .int .i64 0] 67)).heap.size = w2.heap.size + 1 := by simp
    rw [hsz] at hs4
    clear hsz hs3
    go_wp2_with fail
    generalize w2.heap.size + 1 = ob at hs4 ⊢
    generalize w2.heap.size = ob0 at ⊢
    generalize ((w2.alloc (.cells #[.bool false, .bool false, .int .i64 0, .int .i64 0] 67)).alloc (.cells #[.pointer none, .slice none 0 0, .map none, .map none, .int .u64 0, .int .u64 0] 73)) = w3 at hs4 ⊢
    have hodd := RealOdd w3 ob (cell_at hs4.heap)
    have hnil := DevRealNil w3
    clear hs2
    refine (NotFail _ _ hnil 1 1).mono ?_
    rintro e w3 ⟨rfl, rfl⟩
    go_wp2_with fail
    refine (NotFail _ _ hodd 1 1).mono ?_
    rintro e w3 ⟨rfl, rfl⟩
    go_wp2_with fail
    refine (PowCutNil _).mono ?_
    rintro e w3 ⟨rfl, rfl⟩
    go_wp2_with fail
    refine (NotRead _ _ hnil at_).mono ?_
    rintro e w3 ⟨rfl, rfl⟩
    go_wp2_with fail
    refine (NotCrash _ _ hodd _ _ _ _).mono ?_
    rintro e w3 ⟨rfl, rfl⟩
    go_wp2_with fail
    refine (NotPeek _ _ hnil at_).mono ?_
    rintro e w3 ⟨rfl, rfl⟩
    go_wp2_with fail
    refine (NotWrite _ _ hnil at_ _ _ _).mono ?_
    rintro e w3 ⟨rfl, rfl⟩
    go_wp2_with fail
    refine (NotFlush _ _ hodd).mono ?_
    rintro e w3 ⟨rfl, rfl⟩
    go_wp2_with fail
    refine (NotRot _ _ hnil at_ _ _).mono ?_
    rintro e w3 ⟨rfl, rfl⟩
    go_wp2_with fail
    refine (NotRotten _ _ hodd at_).mono ?_
    rintro e w3 ⟨rfl, rfl⟩
    go_wp2_with fail
    refine (NotSize _ _ hnil).mono ?_
    rintro e w3 ⟨rfl, rfl⟩
    go_wp2_with fail
    refine (NotSize _ _ hodd).mono ?_
    rintro e w3 ⟨rfl, rfl⟩
    go_wp2_with fail
    refine (NotLoose _ _ hodd).mono ?_
    rintro e w3 ⟨rfl, rfl⟩
    go_wp2_with fail
    refine (PowDoneNil _).mono ?_
    rintro e w3 ⟨rfl, rfl⟩
    go_wp2_with fail
    refine (PowDownNil _).mono ?_
    rintro e w3 ⟨rfl, rfl⟩
    go_wp2_with fail
    refine (PowFuseNil _ 1).mono ?_
    rintro e w3 ⟨rfl, rfl⟩
    clear hnil hodd
    have hs5 := hs4.left
    clear hs4
    have haw := Law08Awake W w3 _ hs5
    go_wp2_with fail
    refine haw.mono ?_
    rintro e w4 ⟨rfl, hs6⟩
    go_wp2
    go_ret
    exact ⟨rfl, hs6.left⟩
set_option maxHeartbeats 4000000 in
theorem DevMakesZero (W : World) (at_ : Int) :
    Calls Try.prog 6 #[.int .i64 0, .int .i64 at_] W fun e w' => e = .returned (.bool true) ∧ S W w' emp := by
  have hp := PowNew W W emp (S.start W)
  go_enter Try.func6, Try.ntmps6
  go_wp2_with fail
  refine hp.mono ?_
  rintro e w1 ⟨pw, rfl, hs1⟩
  have hnew := DevNew W _ _ pw 0 (by omega) _ hs1
  go_wp2_with fail
  refine hnew.mono ?_
  rintro e w2 ⟨d, rfl, hs2⟩
  go_wp2_with fail
  refine (NewNil _ _ (PowRealNil _)).mono ?_
  rintro e w2 ⟨rfl, rfl⟩
  have hs3 := hs2.alloc (.cells #[.bool false, .bool false, .int .i64 0, .int .i64 0] 67)
  have k1 := PowRealOdd _ _ (cell_at hs3.heap)
  go_wp2_with fail
  refine (NewNil _ _ k1).mono ?_
  rintro e _ ⟨rfl, rfl⟩
  clear k1
  have hs4 := hs3.left.alloc (.cells #[.pointer none, .slice none 0 0, .map none, .map none, .int .u64 0, .int .u64 0] 73)
  have hsz : (w2.alloc (.cells #[.bool false, .bool false, .int .i64 0, .int .i64 0] 67)).heap.size = w2.heap.size + 1 := by simp
  rw [hsz] at hs4
  clear hsz hs3
  go_wp2_with fail
  generalize w2.heap.size + 1 = ob at hs4 ⊢
  generalize w2.heap.size = ob0 at ⊢
  generalize ((w2.alloc (.cells #[.bool false, .bool false, .int .i64 0, .int .i64 0] 67)).alloc (.cells #[.pointer none, .slice none 0 0, .map none, .map none, .int .u64 0, .int .u64 0] 73)) = w3 at hs4 ⊢
  have hodd := RealOdd w3 ob (cell_at hs4.heap)
  have hnil := DevRealNil w3
  clear hs2
  refine (NotFail _ _ hnil 1 1).mono ?_
  rintro e w3 ⟨rfl, rfl⟩
  go_wp2_with fail
  refine (NotFail _ _ hodd 1 1).mono ?_
  rintro e w3 ⟨rfl, rfl⟩
  go_wp2_with fail
  refine (PowCutNil _).mono ?_
  rintro e w3 ⟨rfl, rfl⟩
  go_wp2_with fail
  refine (NotRead _ _ hnil at_).mono ?_
  rintro e w3 ⟨rfl, rfl⟩
  go_wp2_with fail
  refine (NotCrash _ _ hodd _ _ _ _).mono ?_
  rintro e w3 ⟨rfl, rfl⟩
  go_wp2_with fail
  refine (NotPeek _ _ hnil at_).mono ?_
  rintro e w3 ⟨rfl, rfl⟩
  go_wp2_with fail
  refine (NotWrite _ _ hnil at_ _ _ _).mono ?_
  rintro e w3 ⟨rfl, rfl⟩
  go_wp2_with fail
  refine (NotFlush _ _ hodd).mono ?_
  rintro e w3 ⟨rfl, rfl⟩
  go_wp2_with fail
  refine (NotRot _ _ hnil at_ _ _).mono ?_
  rintro e w3 ⟨rfl, rfl⟩
  go_wp2_with fail
  refine (NotRotten _ _ hodd at_).mono ?_
  rintro e w3 ⟨rfl, rfl⟩
  go_wp2_with fail
  refine (NotSize _ _ hnil).mono ?_
  rintro e w3 ⟨rfl, rfl⟩
  go_wp2_with fail
  refine (NotSize _ _ hodd).mono ?_
  rintro e w3 ⟨rfl, rfl⟩
  go_wp2_with fail
  refine (NotLoose _ _ hodd).mono ?_
  rintro e w3 ⟨rfl, rfl⟩
  go_wp2_with fail
  refine (PowDoneNil _).mono ?_
  rintro e w3 ⟨rfl, rfl⟩
  go_wp2_with fail
  refine (PowDownNil _).mono ?_
  rintro e w3 ⟨rfl, rfl⟩
  go_wp2_with fail
  refine (PowFuseNil _ 1).mono ?_
  rintro e w3 ⟨rfl, rfl⟩
  clear hnil hodd
  have hs5 := hs4.left
  clear hs4
  have haw := Law08Awake W w3 _ hs5
  go_wp2_with fail
  refine haw.mono ?_
  rintro e w4 ⟨rfl, hs6⟩
  go_wp2
  go_ret
  exact ⟨rfl, hs6.left.left⟩
theorem fill7 : fillB 7 0 = List.replicate 64 7 := by simp [fillB, fillN]
namespace DevA
theorem mk_facts (n : Nat) (h1 : 1 ≤ n) (l : List UInt8) (hl : l.length = 64) : (DevA.new n).writeE .new 0 l = 0 ∧ ∃ D1 : DevA, (DevA.new n).writeS .new 0 l = D1 ∧ D1.readE ((DevA.new n).writeP .new 0 l) 0 = 0 ∧ D1.readB ((DevA.new n).writeP .new 0 l) 0 = l ∧
    ∃ D2 : DevA, D1.readS ((DevA.new n).writeP .new 0 l) 0 = D2 ∧ D2.peekB 0 = l ∧ D2.has 0 = true := by
  obtain ⟨m, rfl⟩ : ∃ m, n = m + 1 := ⟨n - 1, by omega⟩
  have hlen : (DevA.new (m + 1)).secs.length = m + 1 := by simp [DevA.new]
  have hhas : (DevA.new (m + 1)).has 0 = true := by unfold has; rw [hlen]; simp
  have hwr : (DevA.new (m + 1)).writes = 0 := rfl
  have hsp : PowA.new.spendB = true := by simp [PowA.spendB, PowA.new]
  have hoff : PowA.new.off = false := rfl
  have hP : (DevA.new (m + 1)).writeP .new 0 l = PowA.new.spendS := by simp [writeP, hoff, hhas, hl]
  have hPo : PowA.new.spendS.off = false := by simp [PowA.spendS, PowA.new]
  have hS : (DevA.new (m + 1)).writeS .new 0 l = { secs := addLoose secNew l :: List.replicate m secNew, reads := 0, writes := 0 } := by
    unfold writeS
    rw [if_neg (by rw [hoff]; simp), if_neg (by rw [hhas]; simp), if_neg (by rw [hl]; simp), if_neg (by rw [hsp]; simp), if_neg (by rw [hwr]; simp)]
    simp [hwr, DevA.new, List.replicate_succ]
  have hst : ∀ r w, (⟨addLoose secNew l :: List.replicate m secNew, r, w⟩ : DevA).standsAt 0 = l := by
    intro r w
    simp [standsAt, Sec.stands, addLoose]
  have hh : ∀ r w, (⟨addLoose secNew l :: List.replicate m secNew, r, w⟩ : DevA).has 0 = true := by
    intro r w
    unfold has; simp
  refine ⟨by simp [writeE, hoff, hhas, hl, hsp, hwr], _, hS, ?_⟩
  rw [hP]
  refine ⟨by simp [readE, hPo, hh], by simp [readB, hPo, hh, hst], _, by simp only [readS, hPo, hh]; rfl, ?_, hh _ _⟩
  simp [peekB, hh, hst]
end DevA
set_option maxHeartbeats 8000000 in
theorem DevMakesGood (W : World) (n : Nat) (at_ : Int) (hn : 1 ≤ n) (hn2 : n ≤ 4096) :
    Calls Try.prog 6 #[.int .i64 (n : Int), .int .i64 at_] W fun e w' => e = .returned (.bool true) ∧ S W w' emp := by
  have hp := PowNew W W emp (S.start W)
  have m0 : (0 : Int) ≤ n := by omega
  have m1 : (n : Int) ≤ 4096 := by omega
  have m2 : ¬ (n : Int) < 1 := by omega
  have m3 : decide ((n : Int) ≤ 4096) = true := by simp; omega
  obtain ⟨x1, D1, x2, x3, x4, D2, x5, x6, x7⟩ := DevA.mk_facts n hn (List.replicate 64 7) (by simp)
  have HX := Lib.hid (⟨x1, x2, x3, x4, x5, x6, x7⟩ : _ ∧ _ ∧ _ ∧ _ ∧ _ ∧ _ ∧ _)
  clear x1 x2 x3 x4 x5 x6 x7
  go_enter Try.func6, Try.ntmps6
  go_wp2_with fail
  refine hp.mono ?_
  rintro e w1 ⟨pw, rfl, hs1⟩
  have hnew := DevNew W _ _ pw n hn2 _ hs1
  go_wp2_with fail
  refine hnew.mono ?_
  rintro e w2 ⟨d, rfl, hs2⟩
  clear hnew hs1 hp
  go_wp2_with fail
  refine (NewNil _ _ (PowRealNil _)).mono ?_
  rintro e w2 ⟨rfl, rfl⟩
  have hs3 := hs2.alloc (.cells #[.bool false, .bool false, .int .i64 0, .int .i64 0] 67)
  have k1 := PowRealOdd _ _ (cell_at hs3.heap)
  go_wp2_with fail
  refine (NewNil _ _ k1).mono ?_
  rintro e _ ⟨rfl, rfl⟩
  clear k1
  have hs4 := hs3.left.alloc (.cells #[.pointer none, .slice none 0 0, .map none, .map none, .int .u64 0, .int .u64 0] 73)
  have hsz : (w2.alloc (.cells #[.bool false, .bool false, .int .i64 0, .int .i64 0] 67)).heap.size = w2.heap.size + 1 := by simp
  rw [hsz] at hs4
  clear hsz hs3
  go_wp2_with fail
  generalize w2.heap.size + 1 = ob at hs4 ⊢
  generalize w2.heap.size = ob0 at ⊢
  generalize ((w2.alloc (.cells #[.bool false, .bool false, .int .i64 0, .int .i64 0] 67)).alloc (.cells #[.pointer none, .slice none 0 0, .map none, .map none, .int .u64 0, .int .u64 0] 73)) = w3 at hs4 ⊢
  have hodd := RealOdd w3 ob (cell_at hs4.heap)
  have hnil := DevRealNil w3
  clear hs2
  refine (NotFail _ _ hnil 1 1).mono ?_
  rintro e w3 ⟨rfl, rfl⟩
  go_wp2_with fail
  refine (NotFail _ _ hodd 1 1).mono ?_
  rintro e w3 ⟨rfl, rfl⟩
  go_wp2_with fail
  refine (PowCutNil _).mono ?_
  rintro e w3 ⟨rfl, rfl⟩
  go_wp2_with fail
  refine (NotRead _ _ hnil at_).mono ?_
  rintro e w3 ⟨rfl, rfl⟩
  go_wp2_with fail
  refine (NotCrash _ _ hodd _ _ _ _).mono ?_
  rintro e w3 ⟨rfl, rfl⟩
  go_wp2_with fail
  refine (NotPeek _ _ hnil at_).mono ?_
  rintro e w3 ⟨rfl, rfl⟩
  go_wp2_with fail
  refine (NotWrite _ _ hnil at_ _ _ _).mono ?_
  rintro e w3 ⟨rfl, rfl⟩
  go_wp2_with fail
  refine (NotFlush _ _ hodd).mono ?_
  rintro e w3 ⟨rfl, rfl⟩
  go_wp2_with fail
  refine (NotRot _ _ hnil at_ _ _).mono ?_
  rintro e w3 ⟨rfl, rfl⟩
  go_wp2_with fail
  refine (NotRotten _ _ hodd at_).mono ?_
  rintro e w3 ⟨rfl, rfl⟩
  go_wp2_with fail
  refine (NotSize _ _ hnil).mono ?_
  rintro e w3 ⟨rfl, rfl⟩
  go_wp2_with fail
  refine (NotSize _ _ hodd).mono ?_
  rintro e w3 ⟨rfl, rfl⟩
  go_wp2_with fail
  refine (NotLoose _ _ hodd).mono ?_
  rintro e w3 ⟨rfl, rfl⟩
  go_wp2_with fail
  refine (PowDoneNil _).mono ?_
  rintro e w3 ⟨rfl, rfl⟩
  go_wp2_with fail
  refine (PowDownNil _).mono ?_
  rintro e w3 ⟨rfl, rfl⟩
  go_wp2_with fail
  refine (PowFuseNil _ 1).mono ?_
  rintro e w3 ⟨rfl, rfl⟩
  clear hnil hodd
  have hs5 := hs4.left
  clear hs4
  have hfl := FillV W w3 _ 7 0 hs5
  rw [fill7] at hfl
  go_wp2_with fail
  refine hfl.mono ?_
  rintro e w4 ⟨v, rfl, hs6⟩
  clear hfl hs5
  obtain ⟨vb, vm, rfl⟩ : ∃ vb vm, v = .slice (some ⟨vb, 0, none⟩) 64 vm := by
    rcases S.vec hs6 with ⟨_, h0, _⟩ | ⟨vb, vm, _, rfl, _⟩
    · simp at h0
    · exact ⟨vb, vm, by simp⟩
  have hwr := DevWrite W w4 _ d pw (.new n) .new ⟨by simp [PowA.new], by simp [PowA.new]⟩ (fun s hs => by rw [(List.mem_replicate.1 hs).2]; simp [secNew]) 0 (.slice (some ⟨vb, 0, none⟩) 64 vm) (List.replicate 64 7) (fun w h => S.reads h) (by simp) (S.perm (B := emp * bytesV (.slice (some ⟨vb, 0, none⟩) 64 vm) 5 (List.replicate 64 7) * powO pw .new * devO d pw (.new n)) hs6)
  rw [HX.out.1, HX.out.2.1] at hwr
  generalize (DevA.new n).writeP .new 0 (List.replicate 64 7) = p1 at *
  go_wp2_with fail
  refine hwr.mono ?_
  rintro e w5 ⟨rfl, hs7⟩
  clear hwr hs6
  obtain ⟨vsp, hs8⟩ : ∃ spare, S W w5 (emp * powO pw p1 * devO d pw D1 * blk vb (.cells (u8s (List.replicate 64 7) ++ spare).toArray 5 (0, 0))) := by
    rcases S.vec hs7.p2 with ⟨h, _⟩ | ⟨g, m, spare, h, _, _, _, _, h2⟩
    · cases h
    · simp only [Value.slice.injEq, Option.some.injEq, Addr.mk.injEq] at h
      obtain ⟨⟨rfl, _⟩, _⟩ := h
      exact ⟨spare, h2⟩
  have c0 : w5.cell? ⟨vb, 0, none⟩ = some (.int .u8 7) := by rw [cell_at hs8.heap]; simp [u8s, List.replicate_succ]
  have f0 : w5.frozen? ⟨vb, 0, none⟩ = false := free_at hs8.heap
  have hs9 := (hs8.set (i := 0) (v := .int .u8 1)).left
  have hrd := DevRead W _ _ d pw D1 p1 0 hs9
  rw [HX.out.2.2.1, HX.out.2.2.2.1, HX.out.2.2.2.2.1] at hrd
  have m5 := HX.out.2.2.2.2.2.1
  have m6 := HX.out.2.2.2.2.2.2
  clear hs7 hs8 hs9
  go_wp2_with fail
  refine hrd.mono ?_
  rintro e w6 ⟨y, rfl, hs10⟩
  clear hrd c0 f0
  obtain ⟨zz, hzz⟩ : ∃ zz, strV (List.replicate 64 (7 : UInt8)) = .string zz := ⟨_, rfl⟩
  have HZ := Lib.hid hzz
  obtain ⟨lq, hlq⟩ : ∃ lq, lq = List.replicate 64 (7 : UInt8) := ⟨_, rfl⟩
  have HLQ := Lib.hid hlq
  rw [← hlq] at hs10 m5
  have hcv : ∀ (v : Value) (w : World) (G : HProp), S W w (G * bytesV v 5 lq) → (convert 44 9 v).run Try.prog w = .ok (.string zz) w := fun v w G h => by
    rw [← HZ.out, ← HLQ.out]
    exact run_str_S Try.underlying44 Try.underlying5 Try.underlying9 (S.reads h)
  have HPK := Lib.hid (⟨m5, m6⟩ : _ ∧ _)
  clear hzz hlq m5 m6
  have hfill : ∀ (w : World) (G : HProp), S W w G → Calls Try.prog 12 #[.int .u8 7, .int .i64 0] w fun e w' => ∃ v, e = .returned v ∧ S W w' (G * bytesV v 5 lq) := fun w G h => by
    have := FillV W w G 7 0 h
    rw [fill7, ← HLQ.out] at this
    exact this
  go_wp2
  refine wp_region_S [(11, fun w => (convert 44 9 y).run Try.prog w = .ok (.string zz) w)] rfl ?_ ?_
  · intro q hq
    simp only [List.mem_cons, List.not_mem_nil, or_false] at hq
    subst hq
    exact hcv y _ _ hs10.drew
  refine WS.takeP (i := 0) (v := ?_) rfl (by kernel_rfl) (by kernel_rfl) (by kernel_rfl) rfl (fun _ _ _ h => h) (by rfl) (fun w1 => ?_) ?_
  rotate_left 1
  · go_simp; try with_reducible rfl
  try simp only [Act.put, List.setIfInBounds_toArray, List.set_cons_zero, List.set_cons_succ]
  refine WS.takeP (i := 1) (v := ?_) rfl (by kernel_rfl) (by kernel_rfl) (by kernel_rfl) rfl (fun _ _ _ h => h) (by rfl) (fun w1 => ?_) ?_
  rotate_left 1
  · go_simp; try with_reducible rfl
  try simp only [Act.put, List.setIfInBounds_toArray, List.set_cons_zero, List.set_cons_succ]
  refine WS.takeP (i := 2) (v := ?_) rfl (by kernel_rfl) (by kernel_rfl) (by kernel_rfl) rfl (fun _ _ _ h => h) (by rfl) (fun w1 => ?_) ?_
  rotate_left 1
  · go_simp; try with_reducible rfl
  try simp only [Act.put, List.setIfInBounds_toArray, List.set_cons_zero, List.set_cons_succ]
  refine WS.takeP (i := 3) (v := ?_) rfl (by kernel_rfl) (by kernel_rfl) (by kernel_rfl) rfl (fun _ _ _ h => h) (by rfl) (fun w1 => ?_) ?_
  rotate_left 1
  · go_simp; try with_reducible rfl
  try simp only [Act.put, List.setIfInBounds_toArray, List.set_cons_zero, List.set_cons_succ]
  refine WS.takeP (i := 4) (v := ?_) rfl (by kernel_rfl) (by kernel_rfl) (by kernel_rfl) rfl (fun _ _ _ h => h) (by rfl) (fun w1 => ?_) ?_
  rotate_left 1
  · go_simp; try with_reducible rfl
  try simp only [Act.put, List.setIfInBounds_toArray, List.set_cons_zero, List.set_cons_succ]
  refine WS.takeP (i := 5) (v := ?_) rfl (by kernel_rfl) (by kernel_rfl) (by kernel_rfl) rfl (fun _ _ _ h => h) (by rfl) (fun w1 => ?_) ?_
  rotate_left 1
  · go_simp; try with_reducible rfl
  try simp only [Act.put, List.setIfInBounds_toArray, List.set_cons_zero, List.set_cons_succ]
  refine WS.takeP (i := 6) (v := ?_) rfl (by kernel_rfl) (by kernel_rfl) (by kernel_rfl) rfl (fun _ _ _ h => h) (by rfl) (fun w1 => ?_) ?_
  rotate_left 1
  · go_simp; try with_reducible rfl
  try simp only [Act.put, List.setIfInBounds_toArray, List.set_cons_zero, List.set_cons_succ]
  refine WS.takeP (i := 7) (v := ?_) rfl (by kernel_rfl) (by kernel_rfl) (by kernel_rfl) rfl (fun _ _ _ h => h) (by rfl) (fun w1 => ?_) ?_
  rotate_left 1
  · go_simp; try with_reducible rfl
  try simp only [Act.put, List.setIfInBounds_toArray, List.set_cons_zero, List.set_cons_succ]
  refine WS.takeR (i := 8) (v := ?_) (11) _ (by first | exact .head _ | exact .tail _ (.head _) | exact .tail _ (.tail _ (.head _))) rfl (by kernel_rfl) (by kernel_rfl) (by kernel_rfl) rfl (by kernel_rfl) rfl (fun _ _ _ h => h) (by rfl) (fun w1 hR => ?_) ?_
  rotate_left 1
  · (have conv := hR); go_simp; try with_reducible rfl
  try simp only [Act.put, List.setIfInBounds_toArray, List.set_cons_zero, List.set_cons_succ]
  refine WS.one (i := 9) rfl (by kernel_rfl) (by rfl) (fun K hK => ?_)
  go_simp
  refine (hfill _ _ hs10.drew).mono ?_
  rintro e w7 ⟨v7, rfl, hs11⟩
  refine hK _ _ (fun q hq _ => ?_) ?_
  · simp only [List.mem_cons, List.not_mem_nil, or_false] at hq
    subst hq
    exact hcv y _ _ hs11.p1
  have hc7 := hcv v7 _ _ hs11
  have hcy := hcv y _ _ hs11.p1
  refine WS.one (i := 10) rfl (by kernel_rfl) (by rfl) (fun K hK => ?_)
  go_simp
  refine hK _ _ (fun q hq _ => ?_) ?_
  · simp only [List.mem_cons, List.not_mem_nil, or_false] at hq
    subst hq
    exact hcy
  refine WS.one (i := 11) rfl (by kernel_rfl) (by rfl) (fun K hK => ?_)
  go_simp
  refine hK _ _ (fun q hq hq2 => ?_) ?_
  · simp only [List.mem_cons, List.not_mem_nil, or_false] at hq
    subst hq
    revert hq2; simp
  refine WS.takeP (i := 12) (v := ?_) rfl (by kernel_rfl) (by kernel_rfl) (by kernel_rfl) rfl (fun _ _ _ h => h) (by rfl) (fun w1 => ?_) ?_
  rotate_left 1
  · go_simp; try with_reducible rfl
  try simp only [Act.put, List.setIfInBounds_toArray, List.set_cons_zero, List.set_cons_succ]
  refine WS.done (by kernel_rfl) ?_
  have hs12 : S W w7 (emp * powO pw p1 * devO d pw D2 * bytesV y 5 lq) := hs11.left
  clear hs10 hs11 hc7 hcy
  obtain ⟨yb, ym, rfl⟩ : ∃ yb ym, y = .slice (some ⟨yb, 0, none⟩) 64 ym := by
    rcases S.vec hs12 with ⟨_, h0, _⟩ | ⟨vb, vm, _, rfl, _⟩
    · rw [HLQ.out] at h0; simp at h0
    · exact ⟨vb, vm, by rw [HLQ.out]; simp⟩
  obtain ⟨ysp, hs13⟩ : ∃ spare, S W w7 (emp * powO pw p1 * devO d pw D2 * blk yb (.cells (u8s lq ++ spare).toArray 5 (0, 0))) := by
    rcases S.vec hs12 with ⟨h, _⟩ | ⟨g, m, spare, h, _, _, _, _, h2⟩
    · cases h
    · simp only [Value.slice.injEq, Option.some.injEq, Addr.mk.injEq] at h
      obtain ⟨⟨rfl, _⟩, _⟩ := h
      exact ⟨spare, h2⟩
  have c1 : w7.cell? ⟨yb, 1, none⟩ = some (.int .u8 7) := by rw [cell_at hs13.heap, HLQ.out]; simp [u8s, List.replicate_succ]
  have f1 : w7.frozen? ⟨yb, 1, none⟩ = false := free_at hs13.heap
  have hs14 := (hs13.set (i := 1) (v := .int .u8 2)).left
  have hpk := DevPeek W _ _ d pw D2 0 hs14
  rw [HPK.out.1, HPK.out.2] at hpk
  clear hs12 hs13 hs14
  go_wp2_with fail
  refine hpk.mono ?_
  rintro e w8 ⟨z, rfl, hs15⟩
  clear hpk c1 f1
  go_wp2
  refine wp_region_S [(8, fun w => (convert 44 9 z).run Try.prog w = .ok (.string zz) w)] rfl ?_ ?_
  · intro q hq
    simp only [List.mem_cons, List.not_mem_nil, or_false] at hq
    subst hq
    exact hcv z _ _ hs15.drew
  refine WS.takeP (i := 0) (v := ?_) rfl (by kernel_rfl) (by kernel_rfl) (by kernel_rfl) rfl (fun _ _ _ h => h) (by rfl) (fun w1 => ?_) ?_
  rotate_left 1
  · go_simp; try with_reducible rfl
  try simp only [Act.put, List.setIfInBounds_toArray, List.set_cons_zero, List.set_cons_succ]
  refine WS.takeR (i := 1) (v := ?_) (8) _ (by first | exact .head _ | exact .tail _ (.head _) | exact .tail _ (.tail _ (.head _))) rfl (by kernel_rfl) (by kernel_rfl) (by kernel_rfl) rfl (by kernel_rfl) rfl (fun _ _ _ h => h) (by rfl) (fun w1 hR => ?_) ?_
  rotate_left 1
  · (have conv := hR); go_simp; try with_reducible rfl
  try simp only [Act.put, List.setIfInBounds_toArray, List.set_cons_zero, List.set_cons_succ]
  refine WS.one (i := 2) rfl (by kernel_rfl) (by rfl) (fun K hK => ?_)
  go_simp
  refine (hfill _ _ hs15.drew).mono ?_
  rintro e w9 ⟨v9, rfl, hs16⟩
  have hcz := hcv z _ _ hs16.p1
  have hc9 := hcv v9 _ _ hs16
  refine hK _ _ (fun q hq _ => ?_) ?_
  · simp only [List.mem_cons, List.not_mem_nil, or_false] at hq
    subst hq
    exact hcz
  refine WS.one (i := 3) rfl (by kernel_rfl) (by rfl) (fun K hK => ?_)
  go_simp
  refine hK _ _ (fun q hq _ => ?_) ?_
  · simp only [List.mem_cons, List.not_mem_nil, or_false] at hq
    subst hq
    exact hcz
  refine WS.takeP (i := 4) (v := ?_) rfl (by kernel_rfl) (by kernel_rfl) (by kernel_rfl) rfl (fun _ _ _ h => h) (by rfl) (fun w1 => ?_) ?_
  rotate_left 1
  · go_simp; try with_reducible rfl
  try simp only [Act.put, List.setIfInBounds_toArray, List.set_cons_zero, List.set_cons_succ]
  refine WS.takeP (i := 5) (v := ?_) rfl (by kernel_rfl) (by kernel_rfl) (by kernel_rfl) rfl (fun _ _ _ h => h) (by rfl) (fun w1 => ?_) ?_
  rotate_left 1
  · go_simp; try with_reducible rfl
  try simp only [Act.put, List.setIfInBounds_toArray, List.set_cons_zero, List.set_cons_succ]
  refine WS.one (i := 6) rfl (by kernel_rfl) (by rfl) (fun K hK => ?_)
  go_simp
  refine (Law08Awake W w9 _ hs16).mono ?_
  rintro e w10 ⟨rfl, hs17⟩
  refine hK _ _ (fun q hq hq2 => ?_) ?_
  · simp only [List.mem_cons, List.not_mem_nil, or_false] at hq
    subst hq
    exact hcv z _ _ hs17.p1
  refine WS.takeP (i := 7) (v := ?_) rfl (by kernel_rfl) (by kernel_rfl) (by kernel_rfl) rfl (fun _ _ _ h => h) (by rfl) (fun w1 => ?_) ?_
  rotate_left 1
  · go_simp; try with_reducible rfl
  try simp only [Act.put, List.setIfInBounds_toArray, List.set_cons_zero, List.set_cons_succ]
  refine WS.one (i := 8) rfl (by kernel_rfl) (by rfl) (fun K hK => ?_)
  go_simp
  refine hK _ _ (fun q hq hq2 => ?_) ?_
  · simp only [List.mem_cons, List.not_mem_nil, or_false] at hq
    subst hq
    revert hq2; simp
  refine WS.done (by kernel_rfl) ?_
  have hfin : S W w10 emp := hs17.left.left.left.left
  clear hs15 hs16 hs17 hcz hc9
  go_wp2
  go_ret
  exact ⟨rfl, hfin⟩
theorem DevMakesWalk (W : World) (n at_ : Int) :
    Calls Try.prog 6 #[.int .i64 n, .int .i64 at_] W fun e w' => e = .returned (.bool true) ∧ S W w' emp := by
  by_cases h : n < 0 ∨ 4096 < n
  · exact DevMakesBad W n at_ h
  obtain ⟨m, rfl⟩ := Int.eq_ofNat_of_zero_le (show 0 ≤ n by omega)
  by_cases h0 : m = 0
  · subst h0; exact DevMakesZero W at_
  · exact DevMakesGood W m at_ (by omega) (by omega)
end Go.Proofs.Ytnkjkkbjplneeaa
