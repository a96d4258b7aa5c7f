/-
  Slices of the call's own: append, make, copy; slices that are only read.
-/
import Derived.Test.YtnkjkkbjplneeaaSL
import Derived.Laws.MakeOwn
import Derived.Laws.OwnMore
import Derived.Laws.IdiomCopy
namespace Go.SL
open Go.RowKit
set_option linter.unusedSimpArgs false
set_option linter.unusedVariables false
/-- The slice type t: its element type, how many cells and bytes an element has, its zero. -/
def SliceT (P : Program) (t e k bytes : Nat) (z : Value) : Prop := P.underlying t = some (.slice e) ∧ (∃ i, P.info? e = some i ∧ i.zero = some z ∧ i.size = k ∧ i.bytes = bytes) ∧ z.cells.size = k ∧ 0 < k
theorem sliceT_of {P : Program} {t e k bytes : Nat} {z : Value} (h1 : P.underlying t = some (.slice e)) (h2 : (P.info? e).map (fun i => (i.zero, i.size, i.bytes)) = some (some z, k, bytes)) (h3 : z.cells.size = k) (h4 : 0 < k) : SliceT P t e k bytes z :=
  ⟨h1, info_parts h2, h3, h4⟩
/-- What a slice reads as. -/
def Reads (w : World) (k : Nat) (v : Value) (n : Nat) (cs : List Value) : Prop :=
  cs.length = n * k ∧ ((v = .slice none n 0 ∧ n = 0) ∨ ∃ b o m, v = .slice (some ⟨b, o, none⟩) n m ∧ n ≤ m ∧ m ≤ maxLen ∧ ∀ j u, cs[j]? = some u → w.cell? ⟨b, o + j, none⟩ = some u)
theorem add_mk (b o j : Nat) : (⟨b, o, none⟩ : Addr).add j = ⟨b, o + j, none⟩ := by unfold Addr.add; split <;> simp_all
theorem Reads.cell {w : World} {k : Nat} {b o n m : Nat} {cs : List Value} (h : Reads w k (.slice (some ⟨b, o, none⟩) n m) n cs) {j : Nat} {u : Value} (hj : cs[j]? = some u) : w.cell? ⟨b, o + j, none⟩ = some u := by
  obtain ⟨_, ⟨h1, _⟩ | ⟨b', o', m', h1, h2, h3, h4⟩⟩ := h
  · cases h1
  · cases h1; exact h4 _ _ hj
theorem S.reads {W0 w : World} {F : HProp} {T k : Nat} {v : Value} {n : Nat} {cs : List Value} (h : S W0 w (F * vecB T k v n cs)) : Reads w k v n cs := by
  rcases h.vec with ⟨rfl, rfl, rfl, _⟩ | ⟨g, m, spare, rfl, h1, h2, h3, h4, h5⟩
  · exact ⟨by simp, .inl ⟨rfl, rfl⟩⟩
  · refine ⟨h1, .inr ⟨g, 0, m, rfl, h3, h4, fun j u hj => ?_⟩⟩
    rw [cell_at h5.heap]
    have : j < cs.length := (List.getElem?_eq_some_iff.1 hj).1
    simp only [Nat.zero_add, List.getElem?_toArray, List.getElem?_append_left this]
    exact hj
theorem Reads.mono {w w' : World} {k : Nat} {v : Value} {n : Nat} {cs : List Value} (h : Reads w k v n cs) (hc : ∀ p u, w.cell? p = some u → w'.cell? p = some u) : Reads w' k v n cs := by
  obtain ⟨h1, h2⟩ := h
  refine ⟨h1, ?_⟩
  rcases h2 with h2 | ⟨b, o, m, e, a, c, h⟩
  · exact .inl h2
  · exact .inr ⟨b, o, m, e, a, c, fun j u hj => hc _ _ (h j u hj)⟩
theorem cell_alloc {w : World} {o : Obj} {p : Addr} {u : Value} (h : w.cell? p = some u) : (w.alloc o).cell? p = some u := by
  have hlt := World.block_lt_of_cell? w p h
  rw [World.cell?_of_block (w := w) (Below.heap_alloc w o p.block hlt)]
  exact h
theorem S.owns {W0 w : World} {F : HProp} {T k : Nat} {v : Value} {n : Nat} {cs : List Value} (h : S W0 w (F * vecB T k v n cs)) : w.ownsRow W0.heap.size T k v n cs := by
  rcases h.vec with ⟨rfl, rfl, rfl, _⟩ | ⟨g, m, spare, rfl, h1, h2, h3, h4, h5⟩
  · exact World.ownsRow_nil _ _ _ _
  · refine ⟨h1, .inr ⟨g, m, _, rfl, h5.ge, h5.heap, h3, h4, ?_, ?_⟩⟩
    · simp [h1, h2, ← Nat.add_mul]; congr 1; omega
    · simp [← h1]
theorem S.len_le {W0 w : World} {F : HProp} {T k : Nat} {v : Value} {n : Nat} {cs : List Value} (h : S W0 w (F * vecB T k v n cs)) : n ≤ maxLen := by
  rcases h.vec with ⟨rfl, rfl, rfl, _⟩ | ⟨g, m, spare, rfl, h1, h2, h3, h4, h5⟩ <;> omega
section
variable {P : Program} {W0 w : World} {F : HProp}
theorem run_append_S {t e k bytes : Nat} {z : Value} (ht : SliceT P t e k bytes z) (ty : TypeId) {v : Value} {n : Nat} {xs : List Value} (hs : S W0 w (F * vecB e k v n xs))
    {x : Value} {m : Nat} {news : List Value} (hx : Reads w k x m news) (h1 : ∀ u ∈ news, u.oneCell' = true) (h63 : n + m ≤ maxLen) (hbytes : (n + m) * bytes ≤ 140737488355328) :
    ∃ v' w', (Builtin.append_ #[t, t] ty #[v, x]).run P w = .ok v' w' ∧ S W0 w' (F * vecB e k v' (n + m) (xs ++ news)) ∧ (v' = .slice none 0 0 ↔ v = .slice none 0 0 ∧ m = 0) := by
  obtain ⟨hu, ⟨i, hi, hz, rfl, rfl⟩, hzs, hk⟩ := ht
  obtain ⟨hl, ⟨rfl, rfl⟩ | ⟨b, o, c, rfl, hmc, hcm, hc⟩⟩ := hx
  · have hn : news = [] := List.eq_nil_of_length_eq_zero (by simpa using hl)
    subst hn
    exact ⟨v, w, run_append_owned_none (P := P) (w := w) W0.heap.size t ty e i _ hu hi v n xs hs.owns, by simpa using hs, by simp⟩
  · have hnews : ∀ j u, news[j]? = some u → w.cell? ((⟨b, o, none⟩ : Addr).add j) = some u := fun j u hj => by rw [add_mk]; exact hc j u hj
    have hsmall : n + m ≤ 9223372036854775807 := by simp only [maxLen] at h63; omega
    have hlen : ∀ a, xs.length = a * i.size → (xs ++ news).length = (a + m) * i.size := fun a ha => by rw [List.length_append, ha, hl, Nat.add_mul]
    have grown : ∀ (old : Nat), old < n + m → xs.length = n * i.size →
        S W0 (w.drew.alloc (.cells (xs.toArray ++ news.toArray ++ Builtin.zeroCells z.cells (grownCap w (n + m) old e - (n + m))) e)) (F * vecB e i.size (.slice (some ⟨w.heap.size, 0, none⟩) (n + m) (grownCap w (n + m) old e)) (n + m) (xs ++ news)) := by
      intro old ho hxl
      have hge := grownCap_ge w (n + m) old e
      have hcm := grownCap_le_maxLen w (n + m) old e h63
      have hF : S W0 w F := hs.left
      have := hF.drew.alloc (.cells (xs.toArray ++ news.toArray ++ Builtin.zeroCells z.cells (grownCap w (n + m) old e - (n + m))) e)
      refine S.to_vec (spare := (Builtin.zeroCells z.cells (grownCap w (n + m) old e - (n + m))).toList) ?_ (hlen n hxl) ?_ hge hcm
      · have e1 : (xs ++ news ++ (Builtin.zeroCells z.cells (grownCap w (n + m) old e - (n + m))).toList).toArray = xs.toArray ++ news.toArray ++ Builtin.zeroCells z.cells (grownCap w (n + m) old e - (n + m)) := by
          apply Array.ext'; simp
        rw [e1]; exact this
      · rw [Array.length_toList, size_zeroCells, hzs]
    rcases hs.vec with ⟨rfl, rfl, rfl, hF⟩ | ⟨g, cap, spare, rfl, q1, q2, q3, q4, hg⟩
    · by_cases hm : m = 0
      · subst hm
        have hn : news = [] := List.eq_nil_of_length_eq_zero (by simpa using hl)
        subst hn
        refine ⟨.slice none 0 0, w, ?_, by simpa using hs, by simp⟩
        simp [Builtin.append_, run_underlying hu, sizeOf, typeInfo, hi, Builtin.lenOf, Builtin.firstCells, loadCells, loadCellsFrom]
      · have hr := run_append_nil (P := P) w t ty e i z hu hi hz _ m c news hl hnews (by omega) (by omega) (by have hb := hbytes; simp only [Nat.zero_add] at hb; omega)
        have hgr := grown 0 (by omega) (by simp)
        simp only [Nat.zero_add, List.nil_append, Array.empty_append] at hgr ⊢
        exact ⟨_, _, hr, hgr, by simp [hm]⟩
    · by_cases hroom : n + m ≤ cap
      · have hsz : (xs ++ spare).toArray.size = cap * i.size := by simp [q1, q2, ← Nat.add_mul]; congr 1; omega
        have hfit : n * i.size + news.length ≤ (xs ++ spare).toArray.size := by rw [hl, hsz, ← Nat.add_mul]; exact Nat.mul_le_mul_right _ hroom
        have hr := run_append_room (P := P) w t ty e i hu hi g n cap _ hg.heap _ m c news hl hnews h1 hroom hfit
        refine ⟨_, _, hr, ?_, by simp⟩
        have hst : S W0 (w.setRow g (((xs ++ spare).toArray.toList.take (n * i.size)) ++ news ++ (xs ++ spare).toArray.toList.drop (n * i.size + news.length)).toArray) (F * blk g (.cells (((xs ++ spare).toArray.toList.take (n * i.size)) ++ news ++ (xs ++ spare).toArray.toList.drop (n * i.size + news.length)).toArray e (0, 0))) :=
          hg.turn rfl rfl rfl (by simp [World.setRow]) (setRow_heap _ _ _ _ _ _ hg.heap) fun j hj => setRow_other _ _ _ _ hj
        refine S.to_vec (spare := (xs ++ spare).drop (n * i.size + news.length)) ?_ (hlen n q1) ?_ hroom q4
        · have e2 : (xs ++ spare).toArray.toList.take (n * i.size) = xs := by simp [← q1]
          rw [e2] at hst
          rw [e2]
          simpa using hst
        · rw [List.length_drop, List.length_append, q1, q2, hl, ← Nat.add_mul, ← Nat.add_mul, ← Nat.sub_mul]
          congr 1; omega
      · have holds : ∀ j u, xs[j]? = some u → w.cell? ((⟨g, 0, none⟩ : Addr).add j) = some u := fun j u hj => by
          rw [add_mk]
          exact hs.reads.cell hj
        have hr := run_append_grow (P := P) w t ty e i z hu hi hz ⟨g, 0, none⟩ n cap xs q1 holds _ m c news hl hnews (by omega) (by omega) (growslice_fits (by omega) hbytes)
        exact ⟨_, _, hr, grown cap (by omega) q1, by simp⟩
/-- 'append' as a step of the walk. -/
theorem wp_append_S {ops : Array Oper} {rest : List Oper} {o : Oper} {a : Act} {Q : Exit → Act → World → Prop} (s x : Operand) {t e k bytes : Nat} {z : Value} (ht : SliceT P t e k bytes z)
    (hgd : o.guard = none) (ho : o.op = .call { callee := .builtin .append, args := #[s, x], argTypes := #[t, t] }) {v : Value} {n : Nat} {xs : List Value} (hs : S W0 w (F * vecB e k v n xs)) {xv : Value} {m : Nat} {news : List Value}
    (hx : Reads w k xv m news) (he : a.eval s = v) (hex : a.eval x = xv) (h1 : ∀ u ∈ news, u.oneCell' = true) (h63 : n + m ≤ maxLen) (hbytes : (n + m) * bytes ≤ 140737488355328)
    (h : ∀ v' w', S W0 w' (F * vecB e k v' (n + m) (xs ++ news)) → (v' = .slice none 0 0 ↔ v = .slice none 0 0 ∧ m = 0) → wpList P ops Q rest (a.put o.dst v') w') : wpList P ops Q (o :: rest) a w := by
  obtain ⟨v', w', hr, h2, h3⟩ := run_append_S (P := P) ht o.type hs hx h1 h63 hbytes
  refine wpList_plain hgd fun K hK => ?_
  unfold Oper.wp execOp
  simp only [ho, resolve, invoke, builtin, Sem.run_bind, Sem.run_pure, Result.andThen_ok, List.map_toArray, List.map_cons, List.map_nil, he, hex, hr]
  exact hK _ _ (h v' w' h2 h3)
theorem wp_append_K {o : Oper} {a : Act} {K : Act → World → Prop} {Q : Exit → Act → World → Prop} (s x : Operand) {t e k bytes : Nat} {z : Value} (ht : SliceT P t e k bytes z)
    (ho : o.op = .call { callee := .builtin .append, args := #[s, x], argTypes := #[t, t] }) {v : Value} {n : Nat} {xs : List Value} (hs : S W0 w (F * vecB e k v n xs)) {xv : Value} {m : Nat} {news : List Value}
    (hx : Reads w k xv m news) (he : a.eval s = v) (hex : a.eval x = xv) (h1 : ∀ u ∈ news, u.oneCell' = true) (h63 : n + m ≤ maxLen) (hbytes : (n + m) * bytes ≤ 140737488355328)
    (h : ∀ v' w', S W0 w' (F * vecB e k v' (n + m) (xs ++ news)) → (v' = .slice none 0 0 ↔ v = .slice none 0 0 ∧ m = 0) → K (a.put o.dst v') w') : o.wp P a w K Q := by
  obtain ⟨v', w', hr, h2, h3⟩ := run_append_S (P := P) ht o.type hs hx h1 h63 hbytes
  unfold Oper.wp execOp
  simp only [ho, resolve, invoke, builtin, Sem.run_bind, Sem.run_pure, Result.andThen_ok, List.map_toArray, List.map_cons, List.map_nil, he, hex, hr]
  exact h v' w' h2 h3
/-- 'make([]T, n)'. -/
theorem run_make_S {t e k bytes : Nat} {z : Value} (ht : SliceT P t e k bytes z) (kl kc : IntKind) (n : Nat) (hb : bytes * n ≤ 281474976710656) (hn : n ≤ 9223372036854775807) :
    (Instr.makeSlice t (.int kl (n : Int)) (.int kc (n : Int))).run P w = .ok (.slice (some ⟨w.heap.size, 0, none⟩) n n) (w.alloc (.cells (madeCells z.cells (n * k)) e)) := by
  obtain ⟨hu, ⟨i, hi, hz, rfl, rfl⟩, hzs, hk⟩ := ht
  have hb' : (i.bytes : Int) * (n : Int) ≤ 281474976710656 := by
    have h : ((i.bytes * n : Nat) : Int) ≤ 281474976710656 := by omega
    simpa using h
  have := run_make (P := P) w t e i z hu hi hz kl kc (n : Int) (n : Int) (by omega) (by omega) hb' (by omega)
  simpa using this
theorem made_one (z : Value) (hz : z.cells = #[z]) (n : Nat) : madeCells z.cells (n * 1) = (List.replicate n z).toArray := by
  apply Array.ext'
  simp only [madeCells, hz]
  apply List.ext_getElem?
  intro j
  by_cases h : j < n
  · simp [h, Nat.mod_one]
  · simp [h]
theorem S.made {t e k bytes : Nat} {z : Value} (ht : SliceT P t e k bytes z) (hF : S W0 w F) (n : Nat) (hn : n ≤ maxLen) :
    S W0 (w.alloc (.cells (madeCells z.cells (n * k)) e)) (F * vecB e k (.slice (some ⟨w.heap.size, 0, none⟩) n n) n (madeCells z.cells (n * k)).toList) := by
  refine S.to_vec (spare := []) ?_ (by simp [size_madeCells]) (by simp) (Nat.le_refl _) hn
  simpa using hF.alloc _
/-- The row that make makes: n elements of k cells. -/
def zeroRow (z : Value) (n k : Nat) : Array Value := madeCells z.cells (n * k)
theorem zeroRow_one (z : Value) (hz : z.cells = #[z]) (n : Nat) : zeroRow z n 1 = (List.replicate n z).toArray := made_one z hz n
theorem wp_make_S {ops : Array Oper} {rest : List Oper} {o : Oper} {a : Act} {Q : Exit → Act → World → Prop} {l c : Operand} {t e k bytes : Nat} {z : Value} (ht : SliceT P t e k bytes z)
    (hgd : o.guard = none) (hop : o.op = Op.makeSlice t l c) {kl kc : IntKind} {i j : Int} (n : Nat) (hs : S W0 w F) (hl : a.eval l = .int kl i) (hc : a.eval c = .int kc j) (hi : i = (n : Int)) (hj : j = (n : Int)) (hb : bytes * n ≤ 281474976710656) (hn : n ≤ 9223372036854775807)
    (h : ∀ g w', S W0 w' (F * blk g (.cells (zeroRow z n k) e)) → wpList P ops Q rest (a.put o.dst (.slice (some ⟨g, 0, none⟩) n n)) w') : wpList P ops Q (o :: rest) a w := by
  subst hi
  subst hj
  have hr := run_make_S (P := P) (w := w) ht kl kc n hb hn
  change _ = Result.ok _ (w.alloc (.cells (zeroRow z n k) e)) at hr
  refine wpList_plain hgd fun K hK => ?_
  unfold Oper.wp execOp
  simp only [hop, Sem.run_bind, Sem.run_pure, Result.andThen_ok, hl, hc, hr]
  exact hK _ _ (h _ _ (hs.alloc _))
theorem wp_make_K {o : Oper} {a : Act} {K : Act → World → Prop} {Q : Exit → Act → World → Prop} {l c : Operand} {t e k bytes : Nat} {z : Value} (ht : SliceT P t e k bytes z)
    (hop : o.op = Op.makeSlice t l c) {kl kc : IntKind} {i j : Int} (n : Nat) (hs : S W0 w F) (hl : a.eval l = .int kl i) (hc : a.eval c = .int kc j) (hi : i = (n : Int)) (hj : j = (n : Int)) (hb : bytes * n ≤ 281474976710656) (hn : n ≤ 9223372036854775807)
    (h : ∀ g w', S W0 w' (F * blk g (.cells (zeroRow z n k) e)) → K (a.put o.dst (.slice (some ⟨g, 0, none⟩) n n)) w') : o.wp P a w K Q := by
  subst hi
  subst hj
  have hr := run_make_S (P := P) (w := w) ht kl kc n hb hn
  change _ = Result.ok _ (w.alloc (.cells (zeroRow z n k) e)) at hr
  unfold Oper.wp execOp
  simp only [hop, Sem.run_bind, Sem.run_pure, Result.andThen_ok, hl, hc, hr]
  exact h _ _ (hs.alloc _)
/-- 'copy(dst, src)', dst the call's own from its head on. -/
theorem run_copy_S {t e k bytes : Nat} {z : Value} (ht : SliceT P t e k bytes z) (t2 ty : TypeId) {v : Value} {n : Nat} {xs : List Value} (hs : S W0 w (F * vecB e k v n xs))
    {x : Value} {m : Nat} {ys : List Value} (hx : Reads w k x m ys) (h1 : ∀ u ∈ ys, u.oneCell' = true) :
    ∃ w', (Builtin.copy_ #[t, t2] ty #[v, x]).run P w = .ok (.int .i64 (min m n : Nat)) w' ∧ S W0 w' (F * vecB e k v n (ys.take (min m n * k) ++ xs.drop (min m n * k))) := by
  obtain ⟨hu, ⟨i, hi, hz, rfl, rfl⟩, hzs, hk⟩ := ht
  obtain ⟨hl, ⟨rfl, rfl⟩ | ⟨b, o, c, rfl, hmc, hcm, hc⟩⟩ := hx
  · have hn : ys = [] := List.eq_nil_of_length_eq_zero (by simpa using hl)
    subst hn
    refine ⟨w, ?_, by simpa using hs⟩
    rcases hs.vec with ⟨rfl, rfl, rfl, _⟩ | ⟨g, cap, spare, rfl, q1, q2, q3, q4, hg⟩ <;> simp [Builtin.copy_, run_underlying hu, sizeOf, typeInfo, hi, Builtin.lenOf, Builtin.firstCells, goInt, storeCells]
  · have hnews : ∀ j u, (ys.take (min m n * i.size))[j]? = some u → w.cell? ((⟨b, o, none⟩ : Addr).add j) = some u := fun j u hj => by
      rw [add_mk]
      refine hc j u ?_
      rw [List.getElem?_take] at hj
      split at hj
      · exact hj
      · cases hj
    have hle : min m n * i.size ≤ ys.length := by rw [hl]; exact Nat.mul_le_mul_right _ (Nat.min_le_left _ _)
    have hf := run_firstCells_some (P := P) w i.size (min m n) ⟨b, o, none⟩ m c (ys.take (min m n * i.size)) (by simp [hle]) hnews
    rcases hs.vec with ⟨rfl, rfl, rfl, hF⟩ | ⟨g, cap, spare, rfl, q1, q2, q3, q4, hg⟩
    · refine ⟨w, ?_, by simpa using hs⟩
      simp at hf
      simp [Builtin.copy_, run_underlying hu, sizeOf, typeInfo, hi, Builtin.lenOf, hf, goInt]
    · have hsz : (xs ++ spare).toArray.size = cap * i.size := by simp [q1, q2, ← Nat.add_mul]; congr 1; omega
      have hle2 : min m n * i.size ≤ xs.length := by rw [q1]; exact Nat.mul_le_mul_right _ (Nat.min_le_right _ _)
      have hst := run_storeCells_at P g 0 e (ys.take (min m n * i.size)) 0 (xs ++ spare).toArray w hg.heap (by simp; omega) (fun u hu => h1 u (List.mem_of_mem_take hu))
      have e2 : ((xs ++ spare).toArray.toList.take (0 + 0) ++ ys.take (min m n * i.size) ++ (xs ++ spare).toArray.toList.drop (0 + 0 + (ys.take (min m n * i.size)).length)).toArray = (ys.take (min m n * i.size) ++ xs.drop (min m n * i.size) ++ spare).toArray := by
        simp only [Nat.add_zero, Nat.zero_add, List.take_zero, List.nil_append, List.length_take, Nat.min_eq_left hle, List.append_assoc]
        rw [List.drop_append_of_le_length hle2]
      rw [e2] at hst
      refine ⟨w.setRow g (ys.take (min m n * i.size) ++ xs.drop (min m n * i.size) ++ spare).toArray, ?_, ?_⟩
      · simp [Builtin.copy_, run_underlying hu, sizeOf, typeInfo, hi, Builtin.lenOf, hf, goInt, hst]
      · refine S.to_vec (spare := spare) ?_ (by simp; omega) q2 q3 q4
        exact hg.turn rfl rfl rfl (by simp [World.setRow]) (setRow_heap _ _ _ _ _ _ hg.heap) fun j hj => setRow_other _ _ _ _ hj
/-- '[]T{v}', an element of one cell. -/
theorem run_build1 {t e bytes : Nat} {z : Value} (ht : SliceT P t e 1 bytes z) (v : Value) (hv : v.cells = #[v]) :
    (Instr.buildSlice t 1 #[(0, v)]).run P w = .ok (.slice (some ⟨w.heap.size, 0, none⟩) 1 1) (w.alloc (.cells #[v] e)) := by
  obtain ⟨hu, ⟨i, hi, hz, h1, h2⟩, hzs, hk0⟩ := ht
  have hr : Array.range 1 = #[0] := rfl
  simp [Instr.buildSlice, run_underlying hu, sizeOf, typeInfo, zeroValue, hi, hz, h1, newRow, Instr.fill, hv, hr]
end
end Go.SL
