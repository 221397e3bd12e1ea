/- What is proved here: queues: slices of the call's own that may begin in the middle of a block; append, cutting and reading of them. No condition. -/
import Derived.Test.YtbncejmohhejlaaRow
import Derived.Laws.Slices
set_option linter.unusedVariables false
set_option linter.unusedSimpArgs false
namespace Go.Proofs.Ytbncejmohhejlaa
open Go.RowKit
/-- A slice of n elements of sz cells each, of the call's own, from block 'base' on; it may begin in the middle of its block. -/
def QRow (w : World) (base : Nat) (e : TypeId) (sz : Nat) (v : Value) (n : Nat) (xs : List Value) : Prop :=
  xs.length = n * sz ∧ n ≤ maxLen ∧ ((v = .slice none 0 0 ∧ n = 0) ∨
  ∃ g off cap cur, v = .slice (some ⟨g, off, none⟩) n cap ∧ base ≤ g ∧ w.heap[g]? = some (.cells cur e (0, 0)) ∧
    n ≤ cap ∧ cap ≤ maxLen ∧ off + cap * sz ≤ cur.size ∧ (cur.toList.drop off).take (n * sz) = xs)
theorem q_nil (w : World) (base : Nat) (e : TypeId) (sz : Nat) : QRow w base e sz (.slice none 0 0) 0 [] := ⟨by simp, Nat.zero_le _, .inl ⟨rfl, rfl⟩⟩
theorem q_len {w : World} {base : Nat} {e : TypeId} {sz : Nat} {v : Value} {n : Nat} {xs : List Value} (h : QRow w base e sz v n xs) : xs.length = n * sz := h.1
theorem q_form {w : World} {base : Nat} {e : TypeId} {sz : Nat} {v : Value} {n : Nat} {xs : List Value} (h : QRow w base e sz v n xs) : ∃ a cap, v = .slice a n cap ∧ n ≤ cap ∧ cap ≤ maxLen := by
  rcases h.2.2 with ⟨rfl, rfl⟩ | ⟨g, off, cap, cur, rfl, _, _, h1, h2, _⟩
  · exact ⟨none, 0, rfl, Nat.le_refl _, Nat.zero_le _⟩
  · exact ⟨_, _, rfl, h1, h2⟩
theorem q_lt {w : World} {base : Nat} {e : TypeId} {sz : Nat} {v : Value} {n : Nat} {xs : List Value} (h : QRow w base e sz v n xs) : ∀ k, v.ownBlock = some k → base ≤ k ∧ k < w.heap.size := by
  intro k hk
  rcases h.2.2 with ⟨rfl, _⟩ | ⟨g, off, cap, cur, rfl, hb, hg, _⟩
  · cases hk
  · obtain rfl : g = k := by injection hk
    exact ⟨hb, (Array.getElem?_eq_some_iff.1 hg).1⟩
theorem q_keep {S : List Nat} {w w' : World} {base : Nat} {e : TypeId} {sz : Nat} {v : Value} {n : Nat} {xs : List Value} (h : QRow w base e sz v n xs) (k : Keep S w w') (hn : ∀ g, v.ownBlock = some g → g ∉ S) : QRow w' base e sz v n xs := by
  refine ⟨h.1, h.2.1, ?_⟩
  rcases h.2.2 with h | ⟨g, off, cap, cur, hv, hb, hg, r⟩
  · exact .inl h
  · exact .inr ⟨g, off, cap, cur, hv, hb, by rw [k.block g (Array.getElem?_eq_some_iff.1 hg).1 (hn g (by rw [hv]; rfl))]; exact hg, r⟩
theorem q_below {w w' : World} {base B : Nat} {e : TypeId} {sz : Nat} {v : Value} {n : Nat} {xs : List Value} (h : QRow w base e sz v n xs) (k : Below B w w') (hB : w.heap.size ≤ B) : QRow w' base e sz v n xs := by
  refine ⟨h.1, h.2.1, ?_⟩
  rcases h.2.2 with h | ⟨g, off, cap, cur, hv, hb, hg, r⟩
  · exact .inl h
  · exact .inr ⟨g, off, cap, cur, hv, hb, by rw [k.block g (by have := (Array.getElem?_eq_some_iff.1 hg).1; omega)]; exact hg, r⟩
theorem q_alloc {w : World} {base : Nat} {e : TypeId} {sz : Nat} {v : Value} {n : Nat} {xs : List Value} (h : QRow w base e sz v n xs) (o : Obj) : QRow (w.alloc o) base e sz v n xs :=
  q_below h ((Below.refl w.heap.size w).alloc (Nat.le_refl _) o) (Nat.le_refl _)
theorem q_drew {w : World} {base : Nat} {e : TypeId} {sz : Nat} {v : Value} {n : Nat} {xs : List Value} (h : QRow w base e sz v n xs) : QRow w.drew base e sz v n xs := h
theorem q_drewN {w : World} {base : Nat} {e : TypeId} {sz : Nat} {v : Value} {n : Nat} {xs : List Value} (h : QRow w base e sz v n xs) (k : Nat) : QRow (w.drewN k) base e sz v n xs := h
theorem q_set {w : World} {base : Nat} {e : TypeId} {sz : Nat} {v : Value} {n : Nat} {xs : List Value} (h : QRow w base e sz v n xs) {p : Addr} (hn : v.ownBlock ≠ some p.block) (u : Value) : QRow (w.setCell p u) base e sz v n xs := by
  refine ⟨h.1, h.2.1, ?_⟩
  rcases h.2.2 with h | ⟨g, off, cap, cur, hv, hb, hg, r⟩
  · exact .inl h
  · refine .inr ⟨g, off, cap, cur, hv, hb, ?_, r⟩
    rw [Below.heap_setCell w p u g (fun e => hn (by rw [hv, e]; rfl))]; exact hg
theorem q_mono {w : World} {base base' : Nat} {e : TypeId} {sz : Nat} {v : Value} {n : Nat} {xs : List Value} (h : QRow w base e sz v n xs) (hb : base' ≤ base) : QRow w base' e sz v n xs := by
  refine ⟨h.1, h.2.1, ?_⟩
  rcases h.2.2 with h | ⟨g, off, cap, cur, hv, hb', r⟩
  · exact .inl h
  · exact .inr ⟨g, off, cap, cur, hv, by omega, r⟩
/-- The cells of a queue that is not empty. -/
theorem q_cells {w : World} {base : Nat} {e : TypeId} {sz : Nat} {v : Value} {n : Nat} {xs : List Value} (h : QRow w base e sz v n xs) (hn : 0 < n) :
    ∃ g off cap, v = .slice (some ⟨g, off, none⟩) n cap ∧ base ≤ g ∧ g < w.heap.size ∧ n ≤ cap ∧ (∀ j u, xs[j]? = some u → w.cell? ⟨g, off + j, none⟩ = some u) ∧ (∀ j, w.frozen? ⟨g, j, none⟩ = false) := by
  obtain ⟨hl, _, h⟩ := h
  rcases h with ⟨_, h⟩ | ⟨g, off, cap, cur, hv, hb, hg, h1, h2, h3, h4⟩
  · omega
  · refine ⟨g, off, cap, hv, hb, (Array.getElem?_eq_some_iff.1 hg).1, h1, ?_, ?_⟩
    · intro j u hj
      rw [← h4, List.getElem?_take] at hj
      split at hj
      · rw [List.getElem?_drop] at hj
        rw [cell_of_row w g (off + j) cur _ _ hg]; simpa using hj
      · cases hj
    · intro j; simp [World.frozen?, hg]
section
variable {P : Program}
theorem q_from {w : World} {base : Nat} {e : TypeId} {sz : Nat} {v : Value} {n : Nat} {xs : List Value} (t : TypeId) (i : TypeInfo) (ht : P.underlying t = some (.slice e)) (hi : P.info? e = some i) (hsz : i.size = sz) (h : QRow w base e sz v n xs) (kd : IntKind) (k : Nat) (hk : k ≤ n) :
    ∃ v', (∀ W, (Instr.slice t v (some (.int kd (k : Int))) none none).run P W = .ok v' W) ∧ QRow w base e sz v' (n - k) (xs.drop (k * sz)) ∧ v'.ownBlock = v.ownBlock := by
  obtain ⟨hl, hm, h⟩ := h
  have hl2 : (xs.drop (k * sz)).length = (n - k) * sz := by rw [List.length_drop, hl, Nat.sub_mul]
  rcases h with ⟨rfl, rfl⟩ | ⟨g, off, cap, cur, rfl, hb, hg, h1, h2, h3, h4⟩
  · obtain rfl : k = 0 := by omega
    refine ⟨.slice none 0 0, fun W => ?_, ⟨hl2, by omega, .inl ⟨rfl, rfl⟩⟩, rfl⟩
    simp [Instr.slice, Instr.sliceBounds, run_underlying ht, sizeOf, typeInfo, hi, go_sem]
  · by_cases hc : cap = k
    · refine ⟨.slice (some ⟨g, off, none⟩) (n - k) (cap - k), fun W => ?_, ⟨hl2, by omega, .inr ⟨g, off, cap - k, cur, rfl, hb, hg, by omega, by omega, ?_, ?_⟩⟩, rfl⟩
      · have : (k : Int) ≤ (n : Int) := by omega
        simp [Instr.slice, Instr.sliceBounds, run_underlying ht, sizeOf, typeInfo, hi, go_sem, this, hc]
      · rw [hc, Nat.sub_self, Nat.zero_mul]; omega
      · obtain rfl : n = k := by omega
        rw [← h4]
        simp
    · refine ⟨.slice (some ⟨g, off + k * sz, none⟩) (n - k) (cap - k), fun W => ?_, ⟨hl2, by omega, .inr ⟨g, off + k * sz, cap - k, cur, rfl, hb, hg, by omega, by omega, ?_, ?_⟩⟩, rfl⟩
      · have : (k : Int) ≤ (n : Int) := by omega
        have ha : (⟨g, off, none⟩ : Addr).add (k * sz) = ⟨g, off + k * sz, none⟩ := by unfold Addr.add; split <;> simp_all
        simp [Instr.slice, Instr.sliceBounds, run_underlying ht, sizeOf, typeInfo, hi, go_sem, this, hc, hsz, ha]
      · have : cap * sz = k * sz + (cap - k) * sz := by rw [← Nat.add_mul]; congr 1; omega
        omega
      · rw [← h4, List.drop_take, List.drop_drop]
        rw [Nat.sub_mul]
theorem q_upto {w : World} {base : Nat} {e : TypeId} {sz : Nat} {v : Value} {n : Nat} {xs : List Value} (t : TypeId) (i : TypeInfo) (ht : P.underlying t = some (.slice e)) (hi : P.info? e = some i) (hsz : i.size = sz) (h : QRow w base e sz v n xs) (kd : IntKind) (k : Nat) (hk : k ≤ n) :
    ∃ v', (∀ W, (Instr.slice t v none (some (.int kd (k : Int))) none).run P W = .ok v' W) ∧ QRow w base e sz v' k (xs.take (k * sz)) ∧ v'.ownBlock = v.ownBlock := by
  obtain ⟨hl, hm, h⟩ := h
  have hle : k * sz ≤ n * sz := Nat.mul_le_mul_right _ hk
  have hl2 : (xs.take (k * sz)).length = k * sz := by rw [List.length_take, hl]; omega
  rcases h with ⟨rfl, rfl⟩ | ⟨g, off, cap, cur, rfl, hb, hg, h1, h2, h3, h4⟩
  · obtain rfl : k = 0 := by omega
    refine ⟨.slice none 0 0, fun W => ?_, ⟨hl2, by omega, .inl ⟨rfl, rfl⟩⟩, rfl⟩
    simp [Instr.slice, Instr.sliceBounds, run_underlying ht, sizeOf, typeInfo, hi, go_sem]
  · refine ⟨.slice (some ⟨g, off, none⟩) k cap, fun W => ?_, ⟨hl2, by omega, .inr ⟨g, off, cap, cur, rfl, hb, hg, by omega, by omega, h3, ?_⟩⟩, rfl⟩
    · have h5 : (k : Int) ≤ (cap : Int) := by omega
      simp [Instr.slice, Instr.sliceBounds, run_underlying ht, sizeOf, typeInfo, hi, go_sem, h5, Addr.add]
    · rw [← h4, List.take_take, Nat.min_eq_left hle]
set_option maxHeartbeats 2000000 in
theorem run_append_q (w : World) (base : Nat) (t u ty E : TypeId) (sz bytes : Nat) (i : TypeInfo) (z : Value) (du : TypeDesc) (ht : P.underlying t = some (.slice E)) (hu : P.underlying u = some du) (hdu : du = .string ∨ ∃ e, du = .slice e)
    (hi : P.info? E = some i) (hz : i.zero = some z) (hzs : z.cells.size = sz) (hsize : i.size = sz) (hby : i.bytes = bytes)
    (v : Value) (n : Nat) (xs : List Value) (hrow : QRow w base E sz v n xs) (x : Value) (m : Nat) (news : List Value) (hl : news.length = m * sz) (hone : ∀ u ∈ news, u.oneCell' = true) (hx : (Builtin.lenOf x).run P w = .ok m w)
    (hf : ∀ w' : World, w'.heap = w.heap → (Builtin.firstCells sz m x).run P w' = .ok news.toArray w')
    (hlen : (n + m) * bytes ≤ 140737488355328) (hm63 : n + m ≤ maxLen) (hbase : base ≤ w.heap.size) :
    ∃ v' w', (Builtin.append_ #[t, u] ty #[v, x]).run P w = .ok v' w' ∧ QRow w' base E sz v' (n + m) (xs ++ news) ∧ Keep v.ownBlock.toList w w' ∧ (v'.ownBlock = v.ownBlock ∨ v'.ownBlock = some w.heap.size) := by
  have hrow0 := hrow
  obtain ⟨hxl, hnm, hrow⟩ := hrow
  have hl2 : (xs ++ news).length = (n + m) * sz := by rw [List.length_append, hxl, hl, Nat.add_mul]
  have grown : ∀ (old : Nat), old < n + m →
      QRow (w.drew.alloc (.cells (xs.toArray ++ news.toArray ++ Builtin.zeroCells z.cells (grownCap w (n + m) old E - (n + m))) E)) base E sz
        (.slice (some ⟨w.heap.size, 0, none⟩) (n + m) (grownCap w (n + m) old E)) (n + m) (xs ++ news) ∧
      ∀ S, Keep S w (w.drew.alloc (.cells (xs.toArray ++ news.toArray ++ Builtin.zeroCells z.cells (grownCap w (n + m) old E - (n + m))) E)) := by
    intro old ho
    have hge := grownCap_ge w (n + m) old E
    have hcm : grownCap w (n + m) old E ≤ maxLen := grownCap_le_maxLen w _ old _ hm63
    refine ⟨⟨hl2, hm63, .inr ⟨w.heap.size, 0, _, _, rfl, hbase, heap_alloc_new w.drew _, hge, hcm, ?_, ?_⟩⟩, fun S => (Keep.refl S w).drew.alloc _⟩
    · simp only [Array.size_append, List.size_toArray, size_zeroCells, hzs, hxl, hl, ← Nat.add_mul]
      rw [Nat.zero_add]
      exact Nat.mul_le_mul_right _ (by omega)
    · rw [List.drop_zero, ← hl2]
      simp [List.take_append, List.take_of_length_le]
  have hgrow : ∀ (a : Option Addr) (cap : Nat), v = .slice a n cap → ¬ (n + m ≤ cap) → cap ≤ maxLen →
      (∀ w' : World, w'.heap = w.heap → (Builtin.firstCells sz n v).run P w' = .ok xs.toArray w') →
      (Builtin.append_ #[t, u] ty #[v, x]).run P w = .ok (.slice (some ⟨w.heap.size, 0, none⟩) (n + m) (grownCap w (n + m) cap E))
        (w.drew.alloc (.cells (xs.toArray ++ news.toArray ++ Builtin.zeroCells z.cells (grownCap w (n + m) cap E - (n + m))) E)) := by
    rintro a cap rfl hn hcap hold
    have h63' : ¬ (9223372036854775807 < ((n : Int) + (m : Int))) := by unfold maxLen at hm63; omega
    have h48' : ¬ (281474976710656 < Builtin.nextslicecap (n + m) cap * i.bytes) := by
      have := growslice_fits (need := n + m) (old := cap) (bytes := i.bytes) (by omega) (by rw [hby]; omega)
      omega
    have hf1 := hf w.drew rfl
    have hf2 := hold w.drew rfl
    rcases hdu with rfl | ⟨e', rfl⟩ <;> simp [Builtin.append_, run_underlying ht, run_underlying hu, sizeOf, typeInfo, zeroValue, hi, hz, hsize, hx, hn, h63', h48', Question.forced, hf1, hf2, newRow, grownCap] <;> (congr 2; apply Array.ext'; simp [List.append_assoc])
  rcases hrow with ⟨rfl, rfl⟩ | ⟨g, off, cap, cur, rfl, hb, hg, hc, hcm, hcs, htk⟩
  · obtain rfl : xs = [] := List.eq_nil_of_length_eq_zero (by omega)
    by_cases hn : m = 0
    · subst hn
      obtain rfl : news = [] := List.eq_nil_of_length_eq_zero (by omega)
      refine ⟨.slice none 0 0, w, ?_, q_nil w base E sz, Keep.refl _ w, .inl rfl⟩
      have hf1 := hf w rfl
      rcases hdu with rfl | ⟨e', rfl⟩ <;> simp [Builtin.append_, run_underlying ht, run_underlying hu, sizeOf, typeInfo, hi, hsize, hx, hf1]
    · have hr := hgrow none 0 rfl (by omega) (by unfold maxLen; omega) (fun w' _ => by simp [Builtin.firstCells])
      have := grown 0 (by omega)
      exact ⟨_, _, hr, this.1, this.2 _, .inr rfl⟩
  · by_cases hroom : n + m ≤ cap
    · have hmz : (n + m) * sz ≤ cap * sz := Nat.mul_le_mul_right _ hroom
      have hnz : n * sz + m * sz = (n + m) * sz := (Nat.add_mul n m sz).symm
      have hst := run_storeCells_free P g (off + n * sz) E (0, 0) news 0 cur w hg (.inl rfl) (by rw [hl]; omega) hone
      simp only [Nat.add_zero] at hst
      have hf1 := hf w rfl
      have ha : (⟨g, off, none⟩ : Addr).add (n * sz) = ⟨g, off + n * sz, none⟩ := by unfold Addr.add; split <;> simp_all
      have hr : (Builtin.append_ #[t, u] ty #[.slice (some ⟨g, off, none⟩) n cap, x]).run P w =
          .ok (.slice (some ⟨g, off, none⟩) (n + m) cap) (w.setRow g (cur.toList.take (off + n * sz) ++ news ++ cur.toList.drop (off + n * sz + news.length)).toArray) := by
        rcases hdu with rfl | ⟨e', rfl⟩ <;> simp [Builtin.append_, run_underlying ht, run_underlying hu, sizeOf, typeInfo, hi, hsize, hx, hroom, hf1, ha, hst]
      have hcl : cur.toList.length = cur.size := by simp
      refine ⟨_, _, hr, ⟨hl2, hm63, .inr ⟨g, off, cap, _, rfl, hb, setRow_heap w g cur _ _ _ hg, hroom, hcm, ?_, ?_⟩⟩, ?_, .inl rfl⟩
      · simp only [List.size_toArray, List.length_append, List.length_take, List.length_drop, hl, hcl]; omega
      · have e1 : (cur.toList.take (off + n * sz)).drop off = xs := by
          rw [List.drop_take, show off + n * sz - off = n * sz by omega]; exact htk
        rw [List.append_assoc, List.drop_append_of_le_length (by rw [List.length_take]; omega), e1, ← List.append_assoc]
        rw [List.take_append_of_le_length (by rw [hl2]; exact Nat.le_refl _)]
        exact List.take_of_length_le (by rw [hl2]; exact Nat.le_refl _)
      · exact ⟨rfl, rfl, rfl, by simp, fun k _ hk => setRow_other w g k _ (fun e => hk (by simp [Value.ownBlock, e]))⟩
    · have hold : ∀ w' : World, w'.heap = w.heap → (Builtin.firstCells sz n (.slice (some ⟨g, off, none⟩) n cap)).run P w' = .ok xs.toArray w' := by
        intro w' hw'
        by_cases hn0 : n = 0
        · subst hn0
          obtain rfl : xs = [] := List.eq_nil_of_length_eq_zero (by omega)
          exact run_firstCells_some (P := P) w' sz 0 ⟨g, off, none⟩ 0 cap [] (by simp) (fun j u hj => by simp at hj)
        obtain ⟨g', off', cap', e1, _, _, _, hcc, _⟩ := q_cells hrow0 (by omega)
        obtain ⟨rfl, rfl⟩ : g' = g ∧ off' = off := by injection e1 with e1; injection e1 with e1; injection e1 with e1 e2; exact ⟨e1.symm, e2.symm⟩
        exact run_firstCells_some (P := P) w' sz n ⟨g', off', none⟩ n cap xs hxl (fun j u hj => by
          have hadd : (⟨g', off', none⟩ : Addr).add j = ⟨g', off' + j, none⟩ := by unfold Addr.add; split <;> simp_all
          rw [hadd, World.cell?_of_block (w := w) (by rw [hw'])]
          exact hcc j u hj)
      have hr := hgrow (some ⟨g, off, none⟩) cap rfl hroom hcm hold
      have := grown cap (by omega)
      exact ⟨_, _, hr, this.1, this.2 _, .inr rfl⟩
/-- Elements that lie in memory are appended. -/
theorem run_append_qc (w : World) (base : Nat) (t ty E : TypeId) (sz bytes : Nat) (i : TypeInfo) (z : Value) (ht : P.underlying t = some (.slice E))
    (hi : P.info? E = some i) (hz : i.zero = some z) (hzs : z.cells.size = sz) (hsize : i.size = sz) (hby : i.bytes = bytes)
    (v : Value) (n : Nat) (xs : List Value) (hrow : QRow w base E sz v n xs) (g off m c : Nat) (news : List Value) (hl : news.length = m * sz) (hone : ∀ u ∈ news, u.oneCell' = true) (hc : ∀ j u, news[j]? = some u → w.cell? ⟨g, off + j, none⟩ = some u)
    (hlen : (n + m) * bytes ≤ 140737488355328) (hm63 : n + m ≤ maxLen) (hbase : base ≤ w.heap.size) :
    ∃ v' w', (Builtin.append_ #[t, t] ty #[v, .slice (some ⟨g, off, none⟩) m c]).run P w = .ok v' w' ∧ QRow w' base E sz v' (n + m) (xs ++ news) ∧ Keep v.ownBlock.toList w w' ∧ (v'.ownBlock = v.ownBlock ∨ v'.ownBlock = some w.heap.size) :=
  run_append_q w base t t ty E sz bytes i z _ ht ht (.inr ⟨_, rfl⟩) hi hz hzs hsize hby v n xs hrow _ m news hl hone rfl (fun w' hw' =>
    run_firstCells_some (P := P) w' sz m ⟨g, off, none⟩ m c news hl (fun j u hj => by
      have hadd : (⟨g, off, none⟩ : Addr).add j = ⟨g, off + j, none⟩ := by unfold Addr.add; split <;> simp_all
      rw [hadd, World.cell?_of_block (w := w) (by rw [hw'])]
      exact hc j u hj)) hlen hm63 hbase
theorem wpList_append_q {ops : Array Oper} {rest : List Oper} {o : Oper} {a : Act} {Q : Exit → Act → World → Prop} (w : World) (hgd : o.guard = none) (s x : Operand) (t E : TypeId) (sz bytes : Nat) (i : TypeInfo) (z : Value)
    (ho : o.op = .call { callee := .builtin .append, args := #[s, x], argTypes := #[t, t] }) (ht : P.underlying t = some (.slice E))
    (hi : P.info? E = some i) (hz : i.zero = some z) (hzs : z.cells.size = sz) (hsize : i.size = sz) (hby : i.bytes = bytes)
    (base : Nat) (v : Value) (n : Nat) (xs : List Value) (hs : a.eval s = v) (hrow : QRow w base E sz v n xs) (g off m c : Nat) (news : List Value) (hx : a.eval x = .slice (some ⟨g, off, none⟩) m c) (hl : news.length = m * sz) (hone : ∀ u ∈ news, u.oneCell' = true) (hc : ∀ j u, news[j]? = some u → w.cell? ⟨g, off + j, none⟩ = some u)
    (hlen : (n + m) * bytes ≤ 140737488355328) (hm63 : n + m ≤ maxLen) (hbase : base ≤ w.heap.size)
    (h : ∀ v' w', QRow w' base E sz v' (n + m) (xs ++ news) → Keep v.ownBlock.toList w w' → (v'.ownBlock = v.ownBlock ∨ v'.ownBlock = some w.heap.size) → wpList P ops Q rest (a.put o.dst v') w') : wpList P ops Q (o :: rest) a w := by
  refine wpList_plain hgd fun K hK => ?_
  obtain ⟨v', w', hr, h2, h3, h4⟩ := run_append_qc (P := P) w base t o.type E sz bytes i z ht hi hz hzs hsize hby v n xs hrow g off m c news hl hone hc hlen hm63 hbase
  unfold Oper.wp execOp
  simp only [ho, resolve, invoke, builtin, Sem.run_bind, Sem.run_pure, Result.andThen_ok, List.map_toArray, List.map_cons, List.map_nil, hs, hx, hr]
  exact hK _ _ (h v' w' h2 h3 h4)
end
end Go.Proofs.Ytbncejmohhejlaa
