/- What is proved here: a part of the proof of TopLink (texts Fo5 Ct4). No condition. -/
import Derived.Test.YtgopighmifpefaaGreatDoorPart02
import Derived.Test.YtgopighmifpefaaGreatDoorPart03
set_option linter.unusedVariables false
set_option linter.unusedSimpArgs false
namespace Go.Proofs.YtgopighmifpefaaGreatDoor
section
open Go.RowKit
section
set_option maxHeartbeats 4000000 in
set_option maxRecDepth 100000 in
theorem qspop_any (d : ByteArray) (g off : Nat) (cs : List Value) (T0 : TypeId) (v : Value) (n : Nat) (xs : List Value) (w : World) (hn : n ≤ 1000000) (hone : ∀ u ∈ xs, u.oneCell' = true) (hB : Blk w g cs T0) (hv : cs[off]? = some v) (hQ : QRow w 0 9 1 v (n + 1) ([.string d] ++ xs)) (hg : v.ownBlock ≠ some g) :
    Calls Tryz.prog 56 #[.pointer (some ⟨g, off, none⟩)] w fun e w' => e = .returned (.string d) ∧ ∃ v', Keep [g] w w' ∧ Blk w' g (cs.set off v') T0 ∧ QRow w' 0 9 1 v' n xs ∧ (∀ k, v'.ownBlock = some k → w.heap.size ≤ k) := by
  obtain ⟨i0, hi, hz0, hz1, hz2⟩ := info_parts info_s1
  obtain ⟨q, of, cap, hve, -, hqw, hcap, hcl, hfr⟩ := q_cells hQ (by omega)
  have hlen : xs.length = n * 1 := by have := q_len hQ; simp at this; omega
  have h0 : w.cell? ⟨q, of, none⟩ = some (.string d) := hcl 0 _ rfl
  subst hve
  have HX := Lib.hid (fun j u (hj : xs[j]? = some u) => (show w.cell? ⟨q, of + 1 + j, none⟩ = some u by rw [Nat.add_assoc, Nat.add_comm 1 j]; exact hcl (j + 1) u (by simpa using hj)))
  have HB := Lib.hid hB; have HG := Lib.hid hg; have HV := Lib.hid hv
  have HI := Lib.hid hi; have HZ0 := Lib.hid hz0; have HZ1 := Lib.hid hz1; have HZ2 := Lib.hid hz2; have HLN := Lib.hid hlen; have HO := Lib.hid hone
  clear hB hv hQ hg hcl hfr hi hz0 hz1 hz2 hlen hone
  have c0 := (HB.out.cell off).trans HV.out
  have f0 := HB.out.free off
  by_cases hc1 : cap = 1
  · obtain rfl : n = 0 := by omega
    subst hc1
    obtain rfl : xs = [] := List.eq_nil_of_length_eq_zero (by have := HLN.out; simpa using this)
    go_enter Tryz.func56, Tryz.ntmps56
    go_wp2_with (refine wpList_append_q _ rfl _ _ 33 9 1 16 i0 (.string ⟨#[]⟩) rfl Tryz.underlying33 HI.out HZ0.out rfl HZ1.out HZ2.out 0 (.slice none 0 0) 0 [] rfl (q_nil _ 0 _ _) q of 0 0 [] rfl (by simp) (by simp) (fun j u hj => by simp at hj) (by omega) (by unfold maxLen; omega) (Nat.zero_le _) ?_)
    intro v' W2 hq2 hk2 hm2
    have hB2 : Blk W2 g cs T0 := HB.out.keep hk2 (by simp [Value.ownBlock])
    have c0 := (hB2.cell off).trans HV.out
    have f0 := hB2.free off
    have HM := Lib.hid hm2; have HQ2 := Lib.hid hq2; have HK2 := Lib.hid hk2; have HB2 := Lib.hid hB2
    clear hm2 hq2 hk2 hB2
    obtain ⟨av, nv, cv, hav⟩ : ∃ a n c, v' = .slice a n c := by
      obtain ⟨a, c, h, _⟩ := q_form HQ2.out
      exact ⟨a, _, c, h⟩
    subst hav
    go_wp2_with fail
    go_ret
    refine ⟨rfl, .slice av nv cv, ?_, ?_, ?_, ?_⟩
    · exact (HK2.out.mono (fun i hi => by simp [Value.ownBlock] at hi)).setCell (p := ⟨g, off, none⟩) (.inl (by simp)) _
    · exact HB2.out.set off _
    · refine q_set (by simpa using HQ2.out) ?_ _
      intro h
      rcases HM.out with e | e
      · rw [h] at e; cases e
      · rw [h] at e; injection e with e; have := HB.out.lt; simp at e; omega
    · intro k hk
      rcases HM.out with e | e
      · rw [hk] at e; cases e
      · rw [hk] at e; injection e with e; omega
  · have k1 : (1 : Int) ≤ ((n + 1 : Nat) : Int) := by omega
    have k2 : (1 : Int) ≤ (cap : Int) := by omega
    have k3 : ((n + 1 : Nat) : Int) - 1 = (n : Int) := by omega
    go_enter Tryz.func56, Tryz.ntmps56
    go_wp2_with (refine wpList_append_q _ rfl _ _ 33 9 1 16 i0 (.string ⟨#[]⟩) rfl Tryz.underlying33 HI.out HZ0.out rfl HZ1.out HZ2.out 0 (.slice none 0 0) 0 [] rfl (q_nil _ 0 _ _) q (of + 1) n (cap - 1) xs rfl HLN.out HO.out HX.out (by omega) (by unfold maxLen; omega) (Nat.zero_le _) ?_)
    intro v' W2 hq2 hk2 hm2
    have hB2 : Blk W2 g cs T0 := HB.out.keep hk2 (by simp [Value.ownBlock])
    have c0 := (hB2.cell off).trans HV.out
    have f0 := hB2.free off
    have HM := Lib.hid hm2; have HQ2 := Lib.hid hq2; have HK2 := Lib.hid hk2; have HB2 := Lib.hid hB2
    clear hm2 hq2 hk2 hB2
    obtain ⟨av, nv, cv, hav⟩ : ∃ a n c, v' = .slice a n c := by
      obtain ⟨a, c, h, _⟩ := q_form HQ2.out
      exact ⟨a, _, c, h⟩
    subst hav
    go_wp2_with fail
    go_ret
    refine ⟨rfl, .slice av nv cv, ?_, ?_, ?_, ?_⟩
    · exact (HK2.out.mono (fun i hi => by simp [Value.ownBlock] at hi)).setCell (p := ⟨g, off, none⟩) (.inl (by simp)) _
    · exact HB2.out.set off _
    · refine q_set (by simpa using HQ2.out) ?_ _
      intro h
      rcases HM.out with e | e
      · rw [h] at e; cases e
      · rw [h] at e; injection e with e; have := HB.out.lt; simp at e; omega
    · intro k hk
      rcases HM.out with e | e
      · rw [hk] at e; cases e
      · rw [hk] at e; injection e with e; omega
set_option maxHeartbeats 4000000 in
set_option maxRecDepth 100000 in
theorem qupop_any (id : Int) (d : ByteArray) (mk : Bool) (g off : Nat) (cs : List Value) (T0 : TypeId) (v : Value) (n : Nat) (xs : List Value) (w : World) (hn : n ≤ 1000000) (hone : ∀ u ∈ xs, u.oneCell' = true) (hB : Blk w g cs T0) (hv : cs[off]? = some v) (hQ : QRow w 0 74 3 v (n + 1) ([.int .i64 id, .string d, .bool mk] ++ xs)) (hg : v.ownBlock ≠ some g) :
    Calls Tryz.prog 57 #[.pointer (some ⟨g, off, none⟩)] w fun e w' => e = .returned (.agg #[.int .i64 id, .string d, .bool mk]) ∧ ∃ v', Keep [g] w w' ∧ Blk w' g (cs.set off v') T0 ∧ QRow w' 0 74 3 v' n xs ∧ (∀ k, v'.ownBlock = some k → w.heap.size ≤ k) := by
  obtain ⟨i0, hi, hz0, hz1, hz2⟩ := info_parts info_unit
  obtain ⟨q, of, cap, hve, -, hqw, hcap, hcl, hfr⟩ := q_cells hQ (by omega)
  have hlen : xs.length = n * 3 := by have := q_len hQ; simp at this; omega
  have h0 : w.cell? ⟨q, of, none⟩ = some (.int .i64 id) := hcl 0 _ rfl
  have h1 : w.cell? ⟨q, of + 1, none⟩ = some (.string d) := hcl 1 _ rfl
  have h2 : w.cell? ⟨q, of + 2, none⟩ = some (.bool mk) := hcl 2 _ rfl
  subst hve
  have HX := Lib.hid (fun j u (hj : xs[j]? = some u) => (show w.cell? ⟨q, of + 3 + j, none⟩ = some u by rw [Nat.add_assoc, Nat.add_comm 3 j]; exact hcl (j + 3) u (by simpa using hj)))
  have HB := Lib.hid hB; have HG := Lib.hid hg; have HV := Lib.hid hv
  have HI := Lib.hid hi; have HZ0 := Lib.hid hz0; have HZ1 := Lib.hid hz1; have HZ2 := Lib.hid hz2; have HLN := Lib.hid hlen; have HO := Lib.hid hone
  clear hB hv hQ hg hcl hfr hi hz0 hz1 hz2 hlen hone
  have HA := Lib.hid ((Below.refl w.heap.size w).alloc (Nat.le_refl _) (Obj.cells #[.int .i64 0, .string ⟨#[]⟩, .bool false] 74))
  have g0 := (HA.out.cell (p := ⟨q, of, none⟩) hqw).trans h0
  have g1 := (HA.out.cell (p := ⟨q, of + 1, none⟩) hqw).trans h1
  have g2 := (HA.out.cell (p := ⟨q, of + 2, none⟩) hqw).trans h2
  have c0 := ((HB.out.below HA.out HB.out.lt).cell off).trans HV.out
  have f0 := (HB.out.below HA.out HB.out.lt).free off
  by_cases hc1 : cap = 1
  · obtain rfl : n = 0 := by omega
    subst hc1
    obtain rfl : xs = [] := List.eq_nil_of_length_eq_zero (by have := HLN.out; simpa using this)
    go_enter Tryz.func57, Tryz.ntmps57
    go_upto_region 2 with fail
    refine gen_world (fun W => Keep [] w W ∧ Blk W w.heap.size [.int .i64 0, .string ⟨#[]⟩, .bool false] 74 ∧ Blk W (w.heap.size + 1) [.int .i64 id, .string d, .bool mk] 74) ⟨?_, ?_, ?_⟩ ?_
    · exact ((Keep.refl [] w).alloc _).alloc _
    · exact (Blk.new w [.int .i64 0, .string ⟨#[]⟩, .bool false] 74).alloc _
    · exact Blk.new_at _ [.int .i64 id, .string d, .bool mk] 74 _ (by simp)
    rintro W1 ⟨hK, hR, hY⟩
    have HK := Lib.hid hK; have HR := Lib.hid hR; have HY := Lib.hid hY
    have HX1 := Lib.hid (fun j u (hj : [][j]? = some u) => (show W1.cell? ⟨q, of + j, none⟩ = some u from (HK.out.cell (p := ⟨q, of + j, none⟩) hqw (by simp)).trans (by simp at hj)))
    have HB1 := Lib.hid (HB.out.keep HK.out (by simp))
    have e0 := (HB1.out.cell off).trans HV.out
    clear hK hR hY
    go_wp2_with (refine wpList_append_q _ rfl _ _ 66 74 3 32 i0 (.agg #[.int .i64 0, .string ⟨#[]⟩, .bool false]) rfl Tryz.underlying66 HI.out HZ0.out rfl HZ1.out HZ2.out 0 (.slice none 0 0) 0 [] rfl (q_nil _ 0 _ _) q (of) 0 0 [] rfl (by simp) (by simp) HX1.out (by omega) (by unfold maxLen; omega) (Nat.zero_le _) ?_)
    intro v' W2 hq2 hk2 hm2
    have hB2 : Blk W2 g cs T0 := HB1.out.keep hk2 (by simp [Value.ownBlock])
    have e0 := (hB2.cell off).trans HV.out
    have e1 := hB2.free off
    have hR2 := HR.out.keep hk2 (by simp [Value.ownBlock])
    have hY2 := HY.out.keep hk2 (by simp [Value.ownBlock])
    have HM := Lib.hid hm2; have HQ2 := Lib.hid hq2; have HK2 := Lib.hid (HK.out.trans (hk2.mono (by simp [Value.ownBlock]))); have HB2 := Lib.hid hB2; have HR2 := Lib.hid hR2; have HY2 := Lib.hid hY2
    clear hm2 hq2 hk2 hB2 hR2 hY2
    obtain ⟨av, nv, cv, hav⟩ : ∃ a n c, v' = .slice a n c := by
      obtain ⟨a, c, h, _⟩ := q_form HQ2.out
      exact ⟨a, _, c, h⟩
    subst hav
    go_upto_region 3 with fail
    have hlt := HB.out.lt
    refine gen_world (fun W => Keep [g] w W ∧ Blk W g (cs.set off (.slice av nv cv)) T0 ∧ QRow W 0 74 3 (.slice av nv cv) 0 [] ∧ Blk W w.heap.size [.int .i64 0, .string ⟨#[]⟩, .bool false] 74 ∧ Blk W (w.heap.size + 1) [.int .i64 id, .string d, .bool mk] 74 ∧ (∀ k, (Value.slice av nv cv).ownBlock = some k → w.heap.size + 2 ≤ k)) ⟨(HK2.out.mono (fun i hi => by simp at hi)).setCell (p := ⟨g, off, none⟩) (.inl (by simp)) _, HB2.out.set off _, ?_, HR2.out.set_far (by simp; omega) _, HY2.out.set_far (by simp; omega) _, ?_⟩ ?_
    · refine q_set (by simpa using HQ2.out) ?_ _
      intro h
      rcases HM.out with e | e
      · rw [h] at e; cases e
      · rw [h] at e; injection e with e; have := HK.out.size; have : w.heap.size + 1 < W1.heap.size := HY.out.lt; simp at e; omega
    · intro k hk
      rcases HM.out with e | e
      · rw [hk] at e; cases e
      · rw [hk] at e; injection e with e; have : w.heap.size + 1 < W1.heap.size := HY.out.lt; omega
    rintro W3 ⟨hK3, hB3, hQ3, hR3, hY3, hM3⟩
    have HK3 := Lib.hid hK3; have HB3 := Lib.hid hB3; have HQ3 := Lib.hid hQ3; have HR3 := Lib.hid hR3; have HM3 := Lib.hid hM3
    have y0 := hY3.cell 0; have y1 := hY3.cell 1; have y2 := hY3.cell 2
    have r0 := hR3.cell 0; have r1 := hR3.cell 1; have r2 := hR3.cell 2
    have s0 := hR3.free 0; have s1 := hR3.free 1; have s2 := hR3.free 2
    simp only [List.getElem?_cons_zero, List.getElem?_cons_succ] at y0 y1 y2 r0 r1 r2
    have hgn : g ≠ w.heap.size := by omega
    have hqz : (Value.slice av nv cv).ownBlock ≠ some w.heap.size := fun h => by have := hM3 _ h; omega
    have HQN := Lib.hid hqz
    clear hK3 hB3 hQ3 hR3 hY3 hM3 hqz
    go_wp2_with fail
    refine ret_cell rfl w.heap.size 74 [.int .i64 id, .string d, .bool mk] rfl (((HR3.out.set 0 _).set 1 _).set 2 _) Tryz.underlying74 rfl (by kernel_rfl) rfl ?_
    refine ⟨rfl, .slice av nv cv, ?_, ?_, ?_, fun k hk => by have := HM3.out k hk; omega⟩
    · exact ((HK3.out.setCell (p := ⟨w.heap.size, 0, none⟩) (.inr (Nat.le_refl _)) _).setCell (p := ⟨w.heap.size, 1, none⟩) (.inr (Nat.le_refl _)) _).setCell (p := ⟨w.heap.size, 2, none⟩) (.inr (Nat.le_refl _)) _
    · exact ((HB3.out.set_far hgn _).set_far hgn _).set_far hgn _
    · have := q_set (q_set (q_set HQ3.out (p := ⟨w.heap.size, 0, none⟩) HQN.out (.int .i64 id)) (p := ⟨w.heap.size, 1, none⟩) HQN.out (.string d)) (p := ⟨w.heap.size, 2, none⟩) HQN.out (.bool mk)
      simpa using this
  · have k1 : (1 : Int) ≤ ((n + 1 : Nat) : Int) := by omega
    have k2 : (1 : Int) ≤ (cap : Int) := by omega
    have k3 : ((n + 1 : Nat) : Int) - 1 = (n : Int) := by omega
    go_enter Tryz.func57, Tryz.ntmps57
    go_upto_region 2 with fail
    refine gen_world (fun W => Keep [] w W ∧ Blk W w.heap.size [.int .i64 0, .string ⟨#[]⟩, .bool false] 74 ∧ Blk W (w.heap.size + 1) [.int .i64 id, .string d, .bool mk] 74) ⟨?_, ?_, ?_⟩ ?_
    · exact ((Keep.refl [] w).alloc _).alloc _
    · exact (Blk.new w [.int .i64 0, .string ⟨#[]⟩, .bool false] 74).alloc _
    · exact Blk.new_at _ [.int .i64 id, .string d, .bool mk] 74 _ (by simp)
    rintro W1 ⟨hK, hR, hY⟩
    have HK := Lib.hid hK; have HR := Lib.hid hR; have HY := Lib.hid hY
    have HX1 := Lib.hid (fun j u (hj : xs[j]? = some u) => (show W1.cell? ⟨q, of + 3 + j, none⟩ = some u from (HK.out.cell (p := ⟨q, of + 3 + j, none⟩) hqw (by simp)).trans (HX.out j u hj)))
    have HB1 := Lib.hid (HB.out.keep HK.out (by simp))
    have e0 := (HB1.out.cell off).trans HV.out
    clear hK hR hY
    go_wp2_with (refine wpList_append_q _ rfl _ _ 66 74 3 32 i0 (.agg #[.int .i64 0, .string ⟨#[]⟩, .bool false]) rfl Tryz.underlying66 HI.out HZ0.out rfl HZ1.out HZ2.out 0 (.slice none 0 0) 0 [] rfl (q_nil _ 0 _ _) q (of + 3) n (cap - 1) xs rfl HLN.out HO.out HX1.out (by omega) (by unfold maxLen; omega) (Nat.zero_le _) ?_)
    intro v' W2 hq2 hk2 hm2
    have hB2 : Blk W2 g cs T0 := HB1.out.keep hk2 (by simp [Value.ownBlock])
    have e0 := (hB2.cell off).trans HV.out
    have e1 := hB2.free off
    have hR2 := HR.out.keep hk2 (by simp [Value.ownBlock])
    have hY2 := HY.out.keep hk2 (by simp [Value.ownBlock])
    have HM := Lib.hid hm2; have HQ2 := Lib.hid hq2; have HK2 := Lib.hid (HK.out.trans (hk2.mono (by simp [Value.ownBlock]))); have HB2 := Lib.hid hB2; have HR2 := Lib.hid hR2; have HY2 := Lib.hid hY2
    clear hm2 hq2 hk2 hB2 hR2 hY2
    obtain ⟨av, nv, cv, hav⟩ : ∃ a n c, v' = .slice a n c := by
      obtain ⟨a, c, h, _⟩ := q_form HQ2.out
      exact ⟨a, _, c, h⟩
    subst hav
    go_upto_region 3 with fail
    have hlt := HB.out.lt
    refine gen_world (fun W => Keep [g] w W ∧ Blk W g (cs.set off (.slice av nv cv)) T0 ∧ QRow W 0 74 3 (.slice av nv cv) n xs ∧ Blk W w.heap.size [.int .i64 0, .string ⟨#[]⟩, .bool false] 74 ∧ Blk W (w.heap.size + 1) [.int .i64 id, .string d, .bool mk] 74 ∧ (∀ k, (Value.slice av nv cv).ownBlock = some k → w.heap.size + 2 ≤ k)) ⟨(HK2.out.mono (fun i hi => by simp at hi)).setCell (p := ⟨g, off, none⟩) (.inl (by simp)) _, HB2.out.set off _, ?_, HR2.out.set_far (by simp; omega) _, HY2.out.set_far (by simp; omega) _, ?_⟩ ?_
    · refine q_set (by simpa using HQ2.out) ?_ _
      intro h
      rcases HM.out with e | e
      · rw [h] at e; cases e
      · rw [h] at e; injection e with e; have := HK.out.size; have : w.heap.size + 1 < W1.heap.size := HY.out.lt; simp at e; omega
    · intro k hk
      rcases HM.out with e | e
      · rw [hk] at e; cases e
      · rw [hk] at e; injection e with e; have : w.heap.size + 1 < W1.heap.size := HY.out.lt; omega
    rintro W3 ⟨hK3, hB3, hQ3, hR3, hY3, hM3⟩
    have HK3 := Lib.hid hK3; have HB3 := Lib.hid hB3; have HQ3 := Lib.hid hQ3; have HR3 := Lib.hid hR3; have HM3 := Lib.hid hM3
    have y0 := hY3.cell 0; have y1 := hY3.cell 1; have y2 := hY3.cell 2
    have r0 := hR3.cell 0; have r1 := hR3.cell 1; have r2 := hR3.cell 2
    have s0 := hR3.free 0; have s1 := hR3.free 1; have s2 := hR3.free 2
    simp only [List.getElem?_cons_zero, List.getElem?_cons_succ] at y0 y1 y2 r0 r1 r2
    have hgn : g ≠ w.heap.size := by omega
    have hqz : (Value.slice av nv cv).ownBlock ≠ some w.heap.size := fun h => by have := hM3 _ h; omega
    have HQN := Lib.hid hqz
    clear hK3 hB3 hQ3 hR3 hY3 hM3 hqz
    go_wp2_with fail
    refine ret_cell rfl w.heap.size 74 [.int .i64 id, .string d, .bool mk] rfl (((HR3.out.set 0 _).set 1 _).set 2 _) Tryz.underlying74 rfl (by kernel_rfl) rfl ?_
    refine ⟨rfl, .slice av nv cv, ?_, ?_, ?_, fun k hk => by have := HM3.out k hk; omega⟩
    · exact ((HK3.out.setCell (p := ⟨w.heap.size, 0, none⟩) (.inr (Nat.le_refl _)) _).setCell (p := ⟨w.heap.size, 1, none⟩) (.inr (Nat.le_refl _)) _).setCell (p := ⟨w.heap.size, 2, none⟩) (.inr (Nat.le_refl _)) _
    · exact ((HB3.out.set_far hgn _).set_far hgn _).set_far hgn _
    · have := q_set (q_set (q_set HQ3.out (p := ⟨w.heap.size, 0, none⟩) HQN.out (.int .i64 id)) (p := ⟨w.heap.size, 1, none⟩) HQN.out (.string d)) (p := ⟨w.heap.size, 2, none⟩) HQN.out (.bool mk)
      simpa using this
end
section
structure Fs where
  craft : Int
  chan : Int
  window : Int
  limit : Int
  timeout : Int
  service : Int
  how : Int
  set : Int
  base : Int
  tries : Int
  clock : Int
  last : Int
  due : Bool
  given : Bool
  held : Bool
  susp : Bool
  asked : Bool
  events : List Ev
  waiting : List Ut
  sent : List Ut
  byp : List ByteArray
def Fs.cells (s : Fs) (ve vw vs vb : Value) : List Value := [ve, .int .i64 s.craft, .int .i64 s.chan, .int .i64 s.window, .int .i64 s.limit, .int .i64 s.timeout, .int .i64 s.service, .int .i64 s.how, .int .i64 s.set, .int .i64 s.base, .int .i64 s.tries, .int .i64 s.clock, .int .i64 s.last, vw, vs, vb, .bool s.due, .bool s.given, .bool s.held, .bool s.susp, .bool s.asked]
def evRow (l : List Ev) : List Value := l.flatMap Ev.cells
def utRow (l : List Ut) : List Value := l.flatMap Ut.cells
def stRow (l : List ByteArray) : List Value := l.map Value.string
theorem evRow_snoc (l : List Ev) (e : Ev) : evRow (l ++ [e]) = evRow l ++ [.int .i64 e.kind, .int .i64 e.id, .int .i64 e.why] := by simp [evRow, Ev.cells]
theorem utRow_snoc (l : List Ut) (e : Ut) : utRow (l ++ [e]) = utRow l ++ [.int .i64 e.id, .string e.data, .bool e.mark] := by simp [utRow, Ut.cells]
theorem stRow_snoc (l : List ByteArray) (e : ByteArray) : stRow (l ++ [e]) = stRow l ++ [.string e] := by simp [stRow]
theorem evRow_one (l : List Ev) : ∀ u ∈ evRow l, u.oneCell' = true := by
  intro u hu
  obtain ⟨e, _, he⟩ := List.mem_flatMap.1 hu
  simp only [Ev.cells, List.mem_cons, List.not_mem_nil, or_false] at he
  rcases he with rfl | rfl | rfl <;> rfl
theorem utRow_one (l : List Ut) : ∀ u ∈ utRow l, u.oneCell' = true := by
  intro u hu
  obtain ⟨e, _, he⟩ := List.mem_flatMap.1 hu
  simp only [Ut.cells, List.mem_cons, List.not_mem_nil, or_false] at he
  rcases he with rfl | rfl | rfl <;> rfl
theorem stRow_one (l : List ByteArray) : ∀ u ∈ stRow l, u.oneCell' = true := by
  intro u hu
  obtain ⟨e, _, rfl⟩ := List.mem_map.1 hu
  rfl
def Far (a b : Value) : Prop := ∀ k, a.ownBlock = some k → b.ownBlock ≠ some k
/-- The automaton s lies at block g; its four rows are the values ve, vw, vs, vb. -/
structure FopAt (w : World) (g : Nat) (s : Fs) (ve vw vs vb : Value) : Prop where
  blk : Blk w g (s.cells ve vw vs vb) 72
  ev : QRow w 0 83 3 ve s.events.length (evRow s.events)
  wa : QRow w 0 74 3 vw s.waiting.length (utRow s.waiting)
  se : QRow w 0 74 3 vs s.sent.length (utRow s.sent)
  bp : QRow w 0 9 1 vb s.byp.length (stRow s.byp)
  ge : ve.ownBlock ≠ some g
  gw : vw.ownBlock ≠ some g
  gs : vs.ownBlock ≠ some g
  gb : vb.ownBlock ≠ some g
  ew : Far ve vw
  es : Far ve vs
  eb : Far ve vb
  ws : Far vw vs
  wb : Far vw vb
  sb : Far vs vb
def own (g : Nat) (ve vw vs vb : Value) : List Nat := g :: (ve.ownBlock.toList ++ vw.ownBlock.toList ++ vs.ownBlock.toList ++ vb.ownBlock.toList)
theorem mem_own {g k : Nat} {ve vw vs vb : Value} : k ∈ own g ve vw vs vb ↔ k = g ∨ ve.ownBlock = some k ∨ vw.ownBlock = some k ∨ vs.ownBlock = some k ∨ vb.ownBlock = some k := by
  simp [own, Option.mem_toList, or_assoc]
/-- All that belongs to the automaton lies in the blocks S. -/
def FopIn (w : World) (g : Nat) (S : List Nat) (s : Fs) : Prop := ∃ ve vw vs vb, FopAt w g s ve vw vs vb ∧ ∀ k ∈ own g ve vw vs vb, k ∈ S
/-- From w to w' only blocks of S have changed; then the automaton is s'. -/
def FopTo (w w' : World) (g : Nat) (S : List Nat) (s' : Fs) : Prop := ∃ S', FopIn w' g S' s' ∧ Keep S w w' ∧ ∀ k ∈ S', k ∈ S ∨ w.heap.size ≤ k
theorem FopTo.refl {w : World} {g : Nat} {S : List Nat} {s : Fs} (h : FopIn w g S s) : FopTo w w g S s := ⟨S, h, Keep.refl _ _, fun _ h => .inl h⟩
theorem FopAt.keep {w w' : World} {g : Nat} {s : Fs} {ve vw vs vb : Value} {T : List Nat} (h : FopAt w g s ve vw vs vb) (k : Keep T w w') (hT : ∀ x ∈ own g ve vw vs vb, x ∉ T) : FopAt w' g s ve vw vs vb :=
  ⟨h.blk.keep k (hT g (mem_own.2 (.inl rfl))), q_keep h.ev k (fun x e => hT x (mem_own.2 (.inr (.inl e)))), q_keep h.wa k (fun x e => hT x (mem_own.2 (.inr (.inr (.inl e))))), q_keep h.se k (fun x e => hT x (mem_own.2 (.inr (.inr (.inr (.inl e)))))), q_keep h.bp k (fun x e => hT x (mem_own.2 (.inr (.inr (.inr (.inr e)))))),
    h.ge, h.gw, h.gs, h.gb, h.ew, h.es, h.eb, h.ws, h.wb, h.sb⟩
theorem FopAt.lt {w : World} {g : Nat} {s : Fs} {ve vw vs vb : Value} (h : FopAt w g s ve vw vs vb) : ∀ x ∈ own g ve vw vs vb, x < w.heap.size := by
  intro x hx
  rcases mem_own.1 hx with rfl | e | e | e | e
  · exact h.blk.lt
  · exact (q_lt h.ev x e).2
  · exact (q_lt h.wa x e).2
  · exact (q_lt h.se x e).2
  · exact (q_lt h.bp x e).2
theorem FopIn.keep {w w' : World} {g : Nat} {s : Fs} {S T : List Nat} (h : FopIn w g S s) (k : Keep T w w') (hT : ∀ x ∈ S, x < w.heap.size → x ∉ T) : FopIn w' g S s := by
  obtain ⟨ve, vw, vs, vb, h1, h2⟩ := h
  exact ⟨ve, vw, vs, vb, h1.keep k (fun x hx => hT x (h2 x hx) (h1.lt x hx)), h2⟩
theorem FopIn.below {w w' : World} {g : Nat} {s : Fs} {S : List Nat} (h : FopIn w g S s) (k : Below w.heap.size w w') : FopIn w' g S s :=
  h.keep (T := []) ⟨k.os, k.tape, k.output, k.size, fun i hi _ => k.block i hi⟩ (fun _ _ _ => by simp)
/-- Only plain fields have changed. -/
theorem FopAt.upd {w w' : World} {g : Nat} {s s' : Fs} {ve vw vs vb : Value} (h : FopAt w g s ve vw vs vb) (hB : Blk w' g (s'.cells ve vw vs vb) 72) (k : Keep [g] w w') (h1 : s'.events = s.events) (h2 : s'.waiting = s.waiting) (h3 : s'.sent = s.sent) (h4 : s'.byp = s.byp) : FopAt w' g s' ve vw vs vb := by
  have hn : ∀ v : Value, v.ownBlock ≠ some g → ∀ x, v.ownBlock = some x → x ∉ [g] := fun v hv x hx hm => by
    simp at hm; subst hm; exact hv hx
  exact ⟨hB, by rw [h1]; exact q_keep h.ev k (hn _ h.ge), by rw [h2]; exact q_keep h.wa k (hn _ h.gw), by rw [h3]; exact q_keep h.se k (hn _ h.gs), by rw [h4]; exact q_keep h.bp k (hn _ h.gb), h.ge, h.gw, h.gs, h.gb, h.ew, h.es, h.eb, h.ws, h.wb, h.sb⟩
theorem mv_ne {w : World} {a v v' : Value} (hv : Far a v) (hm : Mv w v v') (ha : ∀ k, a.ownBlock = some k → k < w.heap.size) : Far a v' := by
  intro k hk h
  rcases hm k h with e | e
  · exact hv k hk e
  · have := ha k hk; omega
theorem mv_ne' {w : World} {a v v' : Value} (hv : Far v a) (hm : Mv w v v') (ha : ∀ k, a.ownBlock = some k → k < w.heap.size) : Far v' a := by
  intro k hk h
  rcases hm k hk with e | e
  · exact hv k e h
  · have := ha k h; omega
theorem mv_g {w : World} {g : Nat} {v v' : Value} (hv : v.ownBlock ≠ some g) (hm : Mv w v v') (hg : g < w.heap.size) : v'.ownBlock ≠ some g := by
  intro h
  rcases hm g h with e | e
  · exact hv e
  · omega
theorem row_not {g : Nat} {a v : Value} (h : Far a v) (hg : a.ownBlock ≠ some g) : ∀ x, a.ownBlock = some x → x ∉ g :: v.ownBlock.toList := by
  intro x hx hm
  rcases List.mem_cons.1 hm with e | e
  · subst e; exact hg hx
  · exact h x hx (by simpa using e)
theorem Far.symm {a b : Value} (h : Far a b) : Far b a := fun k hk he => h k he hk
/-- One of the rows has changed. -/
theorem FopAt.rowE {w w' : World} {g : Nat} {s s' : Fs} {ve vw vs vb ve' : Value} (h : FopAt w g s ve vw vs vb) (hB : Blk w' g (s'.cells ve' vw vs vb) 72) (k : Keep (g :: ve.ownBlock.toList) w w') (hm : Mv w ve ve') (hQ : QRow w' 0 83 3 ve' s'.events.length (evRow s'.events)) (h2 : s'.waiting = s.waiting) (h3 : s'.sent = s.sent) (h4 : s'.byp = s.byp) : FopAt w' g s' ve' vw vs vb :=
  ⟨hB, hQ, by rw [h2]; exact q_keep h.wa k (row_not h.ew.symm h.gw), by rw [h3]; exact q_keep h.se k (row_not h.es.symm h.gs), by rw [h4]; exact q_keep h.bp k (row_not h.eb.symm h.gb), mv_g h.ge hm h.blk.lt, h.gw, h.gs, h.gb,
    mv_ne' h.ew hm (fun x e => (q_lt h.wa x e).2), mv_ne' h.es hm (fun x e => (q_lt h.se x e).2), mv_ne' h.eb hm (fun x e => (q_lt h.bp x e).2), h.ws, h.wb, h.sb⟩
theorem FopAt.rowW {w w' : World} {g : Nat} {s s' : Fs} {ve vw vs vb vw' : Value} (h : FopAt w g s ve vw vs vb) (hB : Blk w' g (s'.cells ve vw' vs vb) 72) (k : Keep (g :: vw.ownBlock.toList) w w') (hm : Mv w vw vw') (hQ : QRow w' 0 74 3 vw' s'.waiting.length (utRow s'.waiting)) (h1 : s'.events = s.events) (h3 : s'.sent = s.sent) (h4 : s'.byp = s.byp) : FopAt w' g s' ve vw' vs vb :=
  ⟨hB, by rw [h1]; exact q_keep h.ev k (row_not h.ew h.ge), hQ, by rw [h3]; exact q_keep h.se k (row_not h.ws.symm h.gs), by rw [h4]; exact q_keep h.bp k (row_not h.wb.symm h.gb), h.ge, mv_g h.gw hm h.blk.lt, h.gs, h.gb,
    (mv_ne' h.ew.symm hm (fun x e => (q_lt h.ev x e).2)).symm, h.es, h.eb, mv_ne' h.ws hm (fun x e => (q_lt h.se x e).2), mv_ne' h.wb hm (fun x e => (q_lt h.bp x e).2), h.sb⟩
theorem FopAt.rowS {w w' : World} {g : Nat} {s s' : Fs} {ve vw vs vb vs' : Value} (h : FopAt w g s ve vw vs vb) (hB : Blk w' g (s'.cells ve vw vs' vb) 72) (k : Keep (g :: vs.ownBlock.toList) w w') (hm : Mv w vs vs') (hQ : QRow w' 0 74 3 vs' s'.sent.length (utRow s'.sent)) (h1 : s'.events = s.events) (h2 : s'.waiting = s.waiting) (h4 : s'.byp = s.byp) : FopAt w' g s' ve vw vs' vb :=
  ⟨hB, by rw [h1]; exact q_keep h.ev k (row_not h.es h.ge), by rw [h2]; exact q_keep h.wa k (row_not h.ws h.gw), hQ, by rw [h4]; exact q_keep h.bp k (row_not h.sb.symm h.gb), h.ge, h.gw, mv_g h.gs hm h.blk.lt, h.gb,
    h.ew, (mv_ne' h.es.symm hm (fun x e => (q_lt h.ev x e).2)).symm, h.eb, (mv_ne' h.ws.symm hm (fun x e => (q_lt h.wa x e).2)).symm, h.wb, mv_ne' h.sb hm (fun x e => (q_lt h.bp x e).2)⟩
theorem FopAt.rowB {w w' : World} {g : Nat} {s s' : Fs} {ve vw vs vb vb' : Value} (h : FopAt w g s ve vw vs vb) (hB : Blk w' g (s'.cells ve vw vs vb') 72) (k : Keep (g :: vb.ownBlock.toList) w w') (hm : Mv w vb vb') (hQ : QRow w' 0 9 1 vb' s'.byp.length (stRow s'.byp)) (h1 : s'.events = s.events) (h2 : s'.waiting = s.waiting) (h3 : s'.sent = s.sent) : FopAt w' g s' ve vw vs vb' :=
  ⟨hB, by rw [h1]; exact q_keep h.ev k (row_not h.eb h.ge), by rw [h2]; exact q_keep h.wa k (row_not h.wb h.gw), by rw [h3]; exact q_keep h.se k (row_not h.sb h.gs), hQ, h.ge, h.gw, h.gs, mv_g h.gb hm h.blk.lt,
    h.ew, h.es, (mv_ne' h.eb.symm hm (fun x e => (q_lt h.ev x e).2)).symm, h.ws, (mv_ne' h.wb.symm hm (fun x e => (q_lt h.wa x e).2)).symm, (mv_ne' h.sb.symm hm (fun x e => (q_lt h.se x e).2)).symm⟩
/-- The blocks behind such a change. -/
theorem FopTo.row {w w2 : World} {g : Nat} {S : List Nat} {s' : Fs} {ve vw vs vb ve' vw' vs' vb' : Value} (hS : ∀ k ∈ own g ve vw vs vb, k ∈ S) (h' : FopAt w2 g s' ve' vw' vs' vb') (k : Keep (own g ve vw vs vb) w w2)
    (he : Mv w ve ve') (hw : Mv w vw vw') (hs : Mv w vs vs') (hb : Mv w vb vb') : FopTo w w2 g S s' := by
  refine ⟨own g ve' vw' vs' vb', ⟨_, _, _, _, h', fun _ h => h⟩, k.mono hS, fun x hx => ?_⟩
  have hin : ∀ {y}, (y = g ∨ ve.ownBlock = some y ∨ vw.ownBlock = some y ∨ vs.ownBlock = some y ∨ vb.ownBlock = some y) → y ∈ S := fun h => hS _ (mem_own.2 h)
  rcases mem_own.1 hx with e | e | e | e | e
  · exact .inl (hin (.inl e))
  · rcases he x e with e | e
    · exact .inl (hin (.inr (.inl e)))
    · exact .inr e
  · rcases hw x e with e | e
    · exact .inl (hin (.inr (.inr (.inl e))))
    · exact .inr e
  · rcases hs x e with e | e
    · exact .inl (hin (.inr (.inr (.inr (.inl e)))))
    · exact .inr e
  · rcases hb x e with e | e
    · exact .inl (hin (.inr (.inr (.inr (.inr e)))))
    · exact .inr e
theorem Mv.rfl {w : World} {v : Value} : Mv w v v := fun _ h => .inl h
theorem own_g {g : Nat} {ve vw vs vb : Value} : g ∈ own g ve vw vs vb := mem_own.2 (.inl rfl)
theorem own_e {g : Nat} {ve vw vs vb : Value} : ∀ i ∈ g :: ve.ownBlock.toList, i ∈ own g ve vw vs vb := by
  intro i hi; rcases List.mem_cons.1 hi with e | e
  · exact mem_own.2 (.inl e)
  · exact mem_own.2 (.inr (.inl (by simpa using e)))
theorem own_w {g : Nat} {ve vw vs vb : Value} : ∀ i ∈ g :: vw.ownBlock.toList, i ∈ own g ve vw vs vb := by
  intro i hi; rcases List.mem_cons.1 hi with e | e
  · exact mem_own.2 (.inl e)
  · exact mem_own.2 (.inr (.inr (.inl (by simpa using e))))
theorem own_s {g : Nat} {ve vw vs vb : Value} : ∀ i ∈ g :: vs.ownBlock.toList, i ∈ own g ve vw vs vb := by
  intro i hi; rcases List.mem_cons.1 hi with e | e
  · exact mem_own.2 (.inl e)
  · exact mem_own.2 (.inr (.inr (.inr (.inl (by simpa using e)))))
theorem own_b {g : Nat} {ve vw vs vb : Value} : ∀ i ∈ g :: vb.ownBlock.toList, i ∈ own g ve vw vs vb := by
  intro i hi; rcases List.mem_cons.1 hi with e | e
  · exact mem_own.2 (.inl e)
  · exact mem_own.2 (.inr (.inr (.inr (.inr (by simpa using e)))))
end
section
/-- From w to W only blocks of S have changed; the automaton s lies in the blocks S1. -/
structure Pt (w W : World) (g : Nat) (S S1 : List Nat) (s : Fs) : Prop where
  in_ : FopIn W g S1 s
  keep : Keep S w W
  new : ∀ k ∈ S1, k ∈ S ∨ w.heap.size ≤ k
theorem Pt.refl {w : World} {g : Nat} {S : List Nat} {s : Fs} (h : FopIn w g S s) : Pt w w g S S s := ⟨h, Keep.refl _ _, fun _ h => .inl h⟩
theorem Pt.to {w W : World} {g : Nat} {S S1 : List Nat} {s : Fs} (h : Pt w W g S S1 s) : FopTo w W g S s := ⟨S1, h.in_, h.keep, h.new⟩
theorem Pt.trans {w W W' : World} {g : Nat} {S S1 : List Nat} {s s' : Fs} (h : Pt w W g S S1 s) (k : FopTo W W' g S1 s') : ∃ S2, Pt w W' g S S2 s' := by
  obtain ⟨S2, k1, k2, k3⟩ := k
  refine ⟨S2, k1, h.keep.trans_new k2 h.new, fun x hx => ?_⟩
  rcases k3 x hx with e | e
  · exact h.new x e
  · exact .inr (Nat.le_trans h.keep.size e)
theorem Pt.upd {w w1 w2 : World} {g : Nat} {S S1 : List Nat} {s s' : Fs} {ve vw vs vb : Value} (hT : Pt w w1 g S S1 s) (h : FopAt w1 g s ve vw vs vb) (hS : ∀ k ∈ own g ve vw vs vb, k ∈ S1)
    (hB : Blk w2 g (s'.cells ve vw vs vb) 72) (k : Keep [g] w1 w2) (h1 : s'.events = s.events) (h2 : s'.waiting = s.waiting) (h3 : s'.sent = s.sent) (h4 : s'.byp = s.byp) : Pt w w2 g S S1 s' :=
  ⟨⟨ve, vw, vs, vb, h.upd hB k h1 h2 h3 h4, hS⟩, hT.keep.trans_new k (fun i hi => by simp at hi; subst hi; exact hT.new _ (hS _ (mem_own.2 (.inl rfl)))), hT.new⟩
theorem Pt.keepB {w W W' : World} {g : Nat} {S S1 : List Nat} {s : Fs} (h : Pt w W g S S1 s) (k : Below W.heap.size W W') : Pt w W' g S S1 s :=
  ⟨h.in_.below k, h.keep.below k h.keep.size, h.new⟩
theorem Pt.drew {w W : World} {g : Nat} {S S1 : List Nat} {s : Fs} (h : Pt w W g S S1 s) : Pt w W.drew g S S1 s := h.keepB (Below.refl _ _).drew
set_option maxHeartbeats 1000000 in
theorem qulen_any (g off : Nat) (cs : List Value) (T0 : TypeId) (a : Option Addr) (n c : Nat) (w : World) (hB : Blk w g cs T0) (hv : cs[off]? = some (.slice a n c)) : Calls Tryz.prog 26 #[.pointer (some ⟨g, off, none⟩)] w fun e w' => e = .returned (.int .i64 n) ∧ w = w' := by
  have c0 := (hB.cell off).trans hv
  clear hB hv
  go_enter Tryz.func26, Tryz.ntmps26
  go_wp2_with fail
  go_ret
  exact ⟨rfl, rfl⟩
set_option maxHeartbeats 1000000 in
theorem qslen_any (g off : Nat) (cs : List Value) (T0 : TypeId) (a : Option Addr) (n c : Nat) (w : World) (hB : Blk w g cs T0) (hv : cs[off]? = some (.slice a n c)) : Calls Tryz.prog 54 #[.pointer (some ⟨g, off, none⟩)] w fun e w' => e = .returned (.int .i64 n) ∧ w = w' := by
  have c0 := (hB.cell off).trans hv
  clear hB hv
  go_enter Tryz.func54, Tryz.ntmps54
  go_wp2_with fail
  go_ret
  exact ⟨rfl, rfl⟩
set_option maxHeartbeats 1000000 in
theorem foNone_blk (s : Fs) (g : Nat) (ve vw vs vb : Value) (w : World) (b : Bool) (hb : (s.window == 0) = b) (hB : Blk w g (s.cells ve vw vs vb) 72) : Calls Tryz.prog 25 #[.pointer (some ⟨g, 0, none⟩)] w fun e w' => e = .returned (.bool b) ∧ w = w' := by
  have c3 := hB.cell 3
  simp only [Fs.cells, List.getElem?_cons_zero, List.getElem?_cons_succ] at c3
  clear hB
  go_enter Tryz.func25, Tryz.ntmps25
  go_wp2_with fail
  go_ret
  exact ⟨rfl, rfl⟩
theorem foNone_in (s : Fs) (g : Nat) (S : List Nat) (w : World) (b : Bool) (hb : (s.window == 0) = b) (h : FopIn w g S s) : Calls Tryz.prog 25 #[.pointer (some ⟨g, 0, none⟩)] w fun e w' => e = .returned (.bool b) ∧ w = w' := by
  obtain ⟨ve, vw, vs, vb, hF, -⟩ := h
  exact foNone_blk s g ve vw vs vb w b hb hF.blk
theorem qform {w : World} {v : Value} {e : TypeId} {sz n : Nat} {xs : List Value} (h : QRow w 0 e sz v n xs) : ∃ a c, v = .slice a n c := by
  obtain ⟨a, c, h, _⟩ := q_form h
  exact ⟨a, c, h⟩
theorem lenW_in (s : Fs) (g : Nat) (S : List Nat) (w : World) (h : FopIn w g S s) : Calls Tryz.prog 26 #[.pointer (some ⟨g, 13, none⟩)] w fun e w' => e = .returned (.int .i64 (s.waiting.length : Nat)) ∧ w = w' := by
  obtain ⟨ve, vw, vs, vb, hF, -⟩ := h
  obtain ⟨a, c, hv⟩ := qform hF.wa
  exact qulen_any g 13 _ _ a _ c w hF.blk (by rw [← hv]; rfl)
theorem lenS_in (s : Fs) (g : Nat) (S : List Nat) (w : World) (h : FopIn w g S s) : Calls Tryz.prog 26 #[.pointer (some ⟨g, 14, none⟩)] w fun e w' => e = .returned (.int .i64 (s.sent.length : Nat)) ∧ w = w' := by
  obtain ⟨ve, vw, vs, vb, hF, -⟩ := h
  obtain ⟨a, c, hv⟩ := qform hF.se
  exact qulen_any g 14 _ _ a _ c w hF.blk (by rw [← hv]; rfl)
theorem lenB_in (s : Fs) (g : Nat) (S : List Nat) (w : World) (h : FopIn w g S s) : Calls Tryz.prog 54 #[.pointer (some ⟨g, 15, none⟩)] w fun e w' => e = .returned (.int .i64 (s.byp.length : Nat)) ∧ w = w' := by
  obtain ⟨ve, vw, vs, vb, hF, -⟩ := h
  obtain ⟨a, c, hv⟩ := qform hF.bp
  exact qslen_any g 15 _ _ a _ c w hF.blk (by rw [← hv]; rfl)
theorem report_in (e : Ev) (s : Fs) (g : Nat) (S : List Nat) (w : World) (hn : s.events.length ≤ 1000000) (h : FopIn w g S s) : Calls Tryz.prog 52 #[.pointer (some ⟨g, 0, none⟩), .agg #[.int .i64 e.kind, .int .i64 e.id, .int .i64 e.why]] w fun x w' => x = .returned (.tuple #[]) ∧ FopTo w w' g S { s with events := s.events ++ [e] } := by
  obtain ⟨ve, vw, vs, vb, hF, hS⟩ := h
  refine (report_any e.kind e.id e.why g 0 _ _ ve _ _ w hn hF.blk rfl hF.ev hF.ge).mono ?_
  rintro x w' ⟨rfl, v', hK, hB, hQ, hM⟩
  refine ⟨rfl, FopTo.row hS (hF.rowE (s' := { s with events := s.events ++ [e] }) hB hK hM ?_ rfl rfl rfl) (hK.mono own_e) hM Mv.rfl Mv.rfl Mv.rfl⟩
  rw [evRow_snoc, List.length_append]; exact hQ
theorem pushW_in (u : Ut) (s : Fs) (g : Nat) (S : List Nat) (w : World) (hn : s.waiting.length ≤ 1000000) (h : FopIn w g S s) : Calls Tryz.prog 58 #[.pointer (some ⟨g, 13, none⟩), .agg #[.int .i64 u.id, .string u.data, .bool u.mark]] w fun x w' => x = .returned (.tuple #[]) ∧ FopTo w w' g S { s with waiting := s.waiting ++ [u] } := by
  obtain ⟨ve, vw, vs, vb, hF, hS⟩ := h
  refine (qupush_any u.id u.data u.mark g 13 _ _ vw _ _ w hn hF.blk rfl hF.wa hF.gw).mono ?_
  rintro x w' ⟨rfl, v', hK, hB, hQ, hM⟩
  refine ⟨rfl, FopTo.row hS (hF.rowW (s' := { s with waiting := s.waiting ++ [u] }) hB hK hM ?_ rfl rfl rfl) (hK.mono own_w) Mv.rfl hM Mv.rfl Mv.rfl⟩
  rw [utRow_snoc, List.length_append]; exact hQ
theorem pushS_in (u : Ut) (s : Fs) (g : Nat) (S : List Nat) (w : World) (hn : s.sent.length ≤ 1000000) (h : FopIn w g S s) : Calls Tryz.prog 58 #[.pointer (some ⟨g, 14, none⟩), .agg #[.int .i64 u.id, .string u.data, .bool u.mark]] w fun x w' => x = .returned (.tuple #[]) ∧ FopTo w w' g S { s with sent := s.sent ++ [u] } := by
  obtain ⟨ve, vw, vs, vb, hF, hS⟩ := h
  refine (qupush_any u.id u.data u.mark g 14 _ _ vs _ _ w hn hF.blk rfl hF.se hF.gs).mono ?_
  rintro x w' ⟨rfl, v', hK, hB, hQ, hM⟩
  refine ⟨rfl, FopTo.row hS (hF.rowS (s' := { s with sent := s.sent ++ [u] }) hB hK hM ?_ rfl rfl rfl) (hK.mono own_s) Mv.rfl Mv.rfl hM Mv.rfl⟩
  rw [utRow_snoc, List.length_append]; exact hQ
theorem popW_in (u : Ut) (l : List Ut) (s : Fs) (g : Nat) (S : List Nat) (w : World) (hl : s.waiting = u :: l) (hn : l.length ≤ 1000000) (h : FopIn w g S s) : Calls Tryz.prog 57 #[.pointer (some ⟨g, 13, none⟩)] w fun x w' => x = .returned (.agg #[.int .i64 u.id, .string u.data, .bool u.mark]) ∧ FopTo w w' g S { s with waiting := l } := by
  obtain ⟨ve, vw, vs, vb, hF, hS⟩ := h
  have hq := hF.wa
  rw [hl] at hq
  refine (qupop_any u.id u.data u.mark g 13 _ _ vw l.length (utRow l) w hn (utRow_one l) hF.blk rfl hq hF.gw).mono ?_
  rintro x w' ⟨rfl, v', hK, hB, hQ, hM⟩
  have hM : Mv w vw v' := fun k hk => .inr (hM k hk)
  have hK : Keep (g :: vw.ownBlock.toList) w w' := hK.mono (by simp)
  exact ⟨rfl, FopTo.row hS (hF.rowW (s' := { s with waiting := l }) hB hK hM hQ rfl rfl rfl) (hK.mono own_w) Mv.rfl hM Mv.rfl Mv.rfl⟩
theorem popS_in (u : Ut) (l : List Ut) (s : Fs) (g : Nat) (S : List Nat) (w : World) (hl : s.sent = u :: l) (hn : l.length ≤ 1000000) (h : FopIn w g S s) : Calls Tryz.prog 57 #[.pointer (some ⟨g, 14, none⟩)] w fun x w' => x = .returned (.agg #[.int .i64 u.id, .string u.data, .bool u.mark]) ∧ FopTo w w' g S { s with sent := l } := by
  obtain ⟨ve, vw, vs, vb, hF, hS⟩ := h
  have hq := hF.se
  rw [hl] at hq
  refine (qupop_any u.id u.data u.mark g 14 _ _ vs l.length (utRow l) w hn (utRow_one l) hF.blk rfl hq hF.gs).mono ?_
  rintro x w' ⟨rfl, v', hK, hB, hQ, hM⟩
  have hM : Mv w vs v' := fun k hk => .inr (hM k hk)
  have hK : Keep (g :: vs.ownBlock.toList) w w' := hK.mono (by simp)
  exact ⟨rfl, FopTo.row hS (hF.rowS (s' := { s with sent := l }) hB hK hM hQ rfl rfl rfl) (hK.mono own_s) Mv.rfl Mv.rfl hM Mv.rfl⟩
theorem popB_in (u : ByteArray) (l : List ByteArray) (s : Fs) (g : Nat) (S : List Nat) (w : World) (hl : s.byp = u :: l) (hn : l.length ≤ 1000000) (h : FopIn w g S s) : Calls Tryz.prog 56 #[.pointer (some ⟨g, 15, none⟩)] w fun x w' => x = .returned (.string u) ∧ FopTo w w' g S { s with byp := l } := by
  obtain ⟨ve, vw, vs, vb, hF, hS⟩ := h
  have hq := hF.bp
  rw [hl] at hq
  refine (qspop_any u g 15 _ _ vb l.length (stRow l) w hn (stRow_one l) hF.blk rfl hq hF.gb).mono ?_
  rintro x w' ⟨rfl, v', hK, hB, hQ, hM⟩
  have hM : Mv w vb v' := fun k hk => .inr (hM k hk)
  have hK : Keep (g :: vb.ownBlock.toList) w w' := hK.mono (by simp)
  exact ⟨rfl, FopTo.row hS (hF.rowB (s' := { s with byp := l }) hB hK hM hQ rfl rfl rfl) (hK.mono own_b) Mv.rfl Mv.rfl Mv.rfl hM⟩
set_option maxHeartbeats 1000000 in
set_option maxRecDepth 100000 in
theorem again_in (s : Fs) (g : Nat) (S : List Nat) (w : World) (h : FopIn w g S s) : Calls Tryz.prog 43 #[.pointer (some ⟨g, 0, none⟩)] w fun x w' => x = .returned (.tuple #[]) ∧ FopTo w w' g S { s with tries := 1, clock := s.timeout } := by
  have HT := Lib.hid (Pt.refl h)
  clear h
  obtain ⟨ve, vw, vs, vb, hF, hS⟩ := HT.out.in_
  have HF := Lib.hid hF; have HS := Lib.hid hS; have HB := Lib.hid hF.blk; clear hF hS
  have c5 := HB.out.cell 5
  have c10 := HB.out.cell 10
  have c11 := HB.out.cell 11
  have f10 := HB.out.free 10
  have f11 := HB.out.free 11
  simp only [Fs.cells, List.getElem?_cons_zero, List.getElem?_cons_succ] at c5 c10 c11
  go_enter Tryz.func43, Tryz.ntmps43
  go_wp2_with fail
  go_end0
  exact ⟨rfl, (HT.out.upd (s' := { s with tries := 1, clock := s.timeout }) HF.out HS.out ((HB.out.set 10 _).set 11 _) (((Keep.refl _ _).setCell (.inl (by simp)) _).setCell (.inl (by simp)) _) rfl rfl rfl rfl).to⟩
end
section
def alertF (s : Fs) (why : Int) : Fs := { s with service := 0, due := false, waiting := [], sent := [], events := s.events ++ [⟨3, 0, why⟩] }
set_option maxHeartbeats 2000000 in
set_option maxRecDepth 100000 in
theorem alert_in (why : Int) (s : Fs) (g : Nat) (S : List Nat) (w : World) (hn : s.events.length ≤ 1000000) (h : FopIn w g S s) : Calls Tryz.prog 30 #[.pointer (some ⟨g, 0, none⟩), .int .i64 why] w fun x w' => x = .returned (.tuple #[]) ∧ FopTo w w' g S (alertF s why) := by
  have HT := Lib.hid (Pt.refl h)
  clear h
  obtain ⟨ve, vw, vs, vb, hF, hS⟩ := HT.out.in_
  have HF := Lib.hid hF; have HS := Lib.hid hS; have HB := Lib.hid hF.blk; clear hF hS
  have c6 := HB.out.cell 6
  have c13 := HB.out.cell 13
  have c14 := HB.out.cell 14
  have c16 := HB.out.cell 16
  have f6 := HB.out.free 6
  have f13 := HB.out.free 13
  have f14 := HB.out.free 14
  have f16 := HB.out.free 16
  simp only [Fs.cells, List.getElem?_cons_zero, List.getElem?_cons_succ] at c6 c13 c14 c16
  go_enter Tryz.func30, Tryz.ntmps30
  go_upto_region 2 with fail
  have hk1 : Keep [g] w ((w.setCell ⟨g, 6, none⟩ (.int .i64 0)).setCell ⟨g, 16, none⟩ (.bool false)) := ((Keep.refl _ _).setCell (.inl (by simp)) _).setCell (.inl (by simp)) _
  have hF1 := HF.out.upd (s' := { s with service := 0, due := false }) ((HB.out.set 6 (.int .i64 0)).set 16 (.bool false)) hk1 rfl rfl rfl rfl
  have hk2 := (Keep.refl (g :: vw.ownBlock.toList) ((w.setCell ⟨g, 6, none⟩ (.int .i64 0)).setCell ⟨g, 16, none⟩ (.bool false))).setCell (p := ⟨g, 13, none⟩) (.inl (by simp)) (.slice none 0 0)
  have hF2 := hF1.rowW (s' := { s with service := 0, due := false, waiting := [] }) (vw' := .slice none 0 0) (hF1.blk.set 13 (.slice none 0 0)) hk2 (fun k e => by cases e) (q_nil _ _ _ _) rfl rfl rfl
  have hk3 := (Keep.refl (g :: vs.ownBlock.toList) (((w.setCell ⟨g, 6, none⟩ (.int .i64 0)).setCell ⟨g, 16, none⟩ (.bool false)).setCell ⟨g, 13, none⟩ (.slice none 0 0))).setCell (p := ⟨g, 14, none⟩) (.inl (by simp)) (.slice none 0 0)
  have hF3 := hF2.rowS (s' := { s with service := 0, due := false, waiting := [], sent := [] }) (vs' := .slice none 0 0) (hF2.blk.set 14 (.slice none 0 0)) hk3 (fun k e => by cases e) (q_nil _ _ _ _) rfl rfl rfl
  have hT3 := FopTo.row HS.out hF3 (((hk1.mono (by intro i hi; simp at hi; subst hi; exact own_g)).trans (hk2.mono own_w)).trans (hk3.mono own_s)) Mv.rfl (fun k e => by cases e) (fun k e => by cases e) Mv.rfl
  obtain ⟨S1, hT⟩ := HT.out.trans hT3
  refine gen_world (fun W => Pt w W g S S1 { s with service := 0, due := false, waiting := [], sent := [] }) hT ?_
  clear hk1 hF1 hk2 hF2 hk3 hF3 hT3 hT HT HF HS HB c6 c13 c14 c16 f6 f13 f14 f16
  rintro w1 hT
  have HT := Lib.hid hT; clear hT
  go_wp2_with fail
  refine (report_in ⟨3, 0, why⟩ { s with service := 0, due := false, waiting := [], sent := [] } g S1 _ hn HT.out.in_).mono ?_
  rintro e w2 ⟨rfl, hT⟩
  obtain ⟨S1, hT⟩ := HT.out.trans hT
  replace HT := Lib.hid hT; clear hT
  go_wp2_with fail
  go_end0
  exact ⟨rfl, HT.out.to⟩
/-- The row of events that is handed over belongs to the automaton no more. -/
def Given (w w' : World) (S : List Nat) (S' : List Nat) (l : List Ev) (v : Value) : Prop := QRow w' 0 83 3 v l.length (evRow l) ∧ ∀ k, v.ownBlock = some k → k ∉ S' ∧ (k ∈ S ∨ w.heap.size ≤ k)
set_option maxHeartbeats 2000000 in
set_option maxRecDepth 100000 in
theorem reported_in (s : Fs) (g : Nat) (S : List Nat) (w : World) (h : FopIn w g S s) : Calls Tryz.prog 31 #[.pointer (some ⟨g, 0, none⟩)] w fun x w' => ∃ v S', x = .returned v ∧ Pt w w' g S S' { s with events := [] } ∧ Given w w' S S' s.events v := by
  obtain ⟨ve, vw, vs, vb, hF, hS⟩ := h
  obtain ⟨a, c, hv⟩ := qform hF.ev
  have HV := Lib.hid hv
  have HF := Lib.hid hF; have HS := Lib.hid hS; have HB := Lib.hid hF.blk; clear hF hS
  have c0 := HB.out.cell 0
  have f0 := HB.out.free 0
  simp only [Fs.cells, List.getElem?_cons_zero, List.getElem?_cons_succ] at c0
  rw [hv] at c0
  clear hv
  go_enter Tryz.func31, Tryz.ntmps31
  go_wp2_with fail
  go_ret
  have hk := (Keep.refl (g :: ve.ownBlock.toList) w).setCell (p := ⟨g, 0, none⟩) (.inl (by simp)) (.slice none 0 0)
  have hk0 := (Keep.refl [g] w).setCell (p := ⟨g, 0, none⟩) (.inl (by simp)) (.slice none 0 0)
  have hF1 := HF.out.rowE (s' := { s with events := [] }) (ve' := .slice none 0 0) (HB.out.set 0 (.slice none 0 0)) hk (fun k e => by cases e) (q_nil _ _ _ _) rfl rfl rfl
  refine ⟨ve, own g (.slice none 0 0) vw vs vb, (by rw [HV.out]; rfl), ⟨⟨_, _, _, _, hF1, fun _ h => h⟩, hk0.mono (by intro i hi; simp at hi; subst hi; exact HS.out _ own_g), fun k hk => .inl (HS.out k ?_)⟩, q_keep HF.out.ev hk0 (fun x e h => ?_), fun k hk => ⟨fun hm => ?_, .inl (HS.out k (mem_own.2 (.inr (.inl hk))))⟩⟩
  · rcases mem_own.1 hk with e | e | e
    · exact mem_own.2 (.inl e)
    · cases e
    · exact mem_own.2 (.inr (.inr e))
  · simp at h; subst h; exact HF.out.ge e
  · rcases mem_own.1 hm with e | e | e | e | e
    · rw [e] at hk; exact HF.out.ge hk
    · cases e
    · exact HF.out.ew k hk e
    · exact HF.out.es k hk e
    · exact HF.out.eb k hk e
set_option maxHeartbeats 1000000 in
theorem Waiting_in (s : Fs) (g : Nat) (S : List Nat) (w : World) (hw : s.window ≠ 0) (h : FopIn w g S s) : Calls Tryz.prog 8 #[.pointer (some ⟨g, 0, none⟩)] w fun x w' => x = .returned (.int .i64 (s.waiting.length : Nat)) ∧ w = w' := by
  have HN := Lib.hid (foNone_in s g S w false (by simpa using hw) h)
  have HL := Lib.hid (lenW_in s g S w h)
  clear h
  go_enter Tryz.func8, Tryz.ntmps8
  go_wp2_with fail
  refine HN.out.mono ?_
  rintro e w1 ⟨rfl, rfl⟩
  go_wp2_with fail
  refine HL.out.mono ?_
  rintro e w1 ⟨rfl, rfl⟩
  go_wp2_with fail
  go_ret
  exact ⟨rfl, rfl⟩
set_option maxHeartbeats 1000000 in
theorem Sent_in (s : Fs) (g : Nat) (S : List Nat) (w : World) (hw : s.window ≠ 0) (h : FopIn w g S s) : Calls Tryz.prog 7 #[.pointer (some ⟨g, 0, none⟩)] w fun x w' => x = .returned (.int .i64 (s.sent.length : Nat)) ∧ w = w' := by
  have HN := Lib.hid (foNone_in s g S w false (by simpa using hw) h)
  have HL := Lib.hid (lenS_in s g S w h)
  clear h
  go_enter Tryz.func7, Tryz.ntmps7
  go_wp2_with fail
  refine HN.out.mono ?_
  rintro e w1 ⟨rfl, rfl⟩
  go_wp2_with fail
  refine HL.out.mono ?_
  rintro e w1 ⟨rfl, rfl⟩
  go_wp2_with fail
  go_ret
  exact ⟨rfl, rfl⟩
def unfitF (d : ByteArray) : Bool := d.size == 0 || decide (200 < d.size)
set_option maxHeartbeats 1000000 in
theorem unfit_any (d : ByteArray) (w : World) : Calls Tryz.prog 86 #[.string d] w fun x w' => x = .returned (.bool (unfitF d)) ∧ w = w' := by
  by_cases h0 : d.size = 0
  · have hd : d = ⟨#[]⟩ := by
      apply ByteArray.ext
      exact Array.eq_empty_of_size_eq_zero h0
    subst hd
    go_enter Tryz.func86, Tryz.ntmps86
    go_wp2_with fail
    go_ret
    exact ⟨rfl, rfl⟩
  · have hs : (d.toList == ([] : List UInt8)) = false := by
      rw [beq_eq_false_iff_ne]
      intro h
      rw [ByteArray.toList_eq] at h
      exact h0 (by simpa using congrArg List.length h)
    have hu : unfitF d = decide ((200 : Int) < (d.size : Int)) := by
      have : (d.size == 0) = false := by simpa using h0
      unfold unfitF
      rw [this, Bool.false_or]
      exact decide_eq_decide.2 (by omega)
    rw [hu]
    clear hu
    have hs1 : ¬ d.toList = [] := by simpa using hs
    have hs2 : d.toList.isEmpty = false := by simpa using hs1
    go_enter Tryz.func86, Tryz.ntmps86
    go_wp2_with fail
    go_ret
    exact ⟨rfl, rfl⟩
end
end
section
open Go.RowKit
structure Ps where
  begun : Bool
  known : Bool
  last : UInt8
  data : List UInt8
  block : List UInt8
  found : List ByteArray
def Ps.take (s : Ps) : Value := if s.begun then .func (.func 87) #[] #[] else .func (.func 47) #[] #[]
def searchS (s : Ps) : Ps := { s with begun := false, known := false, data := [], block := [] }
/-- Do two bytes begin a unit, with one bit wrong at most? -/
def startN (a b : UInt8) : Bool := let w := (a.toNat ^^^ 235) * 256 + (b.toNat ^^^ 144); w &&& (w - 1) == 0
def stepP (s : Ps) (b : UInt8) : Ps :=
  if s.begun = true then
    if (s.block ++ [b]).length < 8 then { s with block := s.block ++ [b] } else
    match chkL (s.block ++ [b]) with
    | some (seven, _) =>
      if (s.data ++ seven).length < 350 then { s with data := s.data ++ seven, block := [] }
      else searchS { s with found := s.found ++ [⟨(s.data ++ seven).toArray⟩] }
    | none => if 0 < s.data.length then searchS { s with found := s.found ++ [⟨s.data.toArray⟩] } else searchS s
  else if (s.known && startN s.last b) = true then { s with begun := true } else { s with known := true, last := b }
def psCells (dv bv fv : Value) (s : Ps) : List Value := [s.take, .bool s.known, .int .u8 (s.last.toNat : Int), dv, bv, .bool s.begun, fv]
theorem store_fnP {w : World} {g : Nat} {cs : List Value} {t : TypeId} (hB : Blk w g cs t) (i : Nat) (f : Fn) {v : Value} (h : cs[i]? = some v) : (store ⟨g, i, none⟩ (.func f #[] #[])).run Tryz.prog w = .ok () (w.setCell ⟨g, i, none⟩ (.func f #[] #[])) := by
  have c0 := hB.cell i
  have f0 := hB.free i
  rw [h] at c0
  rw [run_store _ _ _ _ _ rfl]
  simp [c0, f0]
set_option maxHeartbeats 4000000 in
set_option maxRecDepth 100000 in
theorem search_any (tk kn ls dv bv bg fv : Value) (P : Nat) (w : World) (hB : Blk w P [tk, kn, ls, dv, bv, bg, fv] 110) :
    Calls Tryz.prog 24 #[.pointer (some ⟨P, 0, none⟩)] w fun e w' => e = .returned (.tuple #[]) ∧ Keep [P] w w' ∧ Blk w' P [.func (.func 47) #[] #[], .bool false, ls, .slice none 0 0, .slice none 0 0, .bool false, fv] 110 := by
  have HB := Lib.hid hB; clear hB
  have c0 := HB.out.cell 0
  have c1 := HB.out.cell 1
  have c2 := HB.out.cell 2
  have c3 := HB.out.cell 3
  have c4 := HB.out.cell 4
  have c5 := HB.out.cell 5
  have c6 := HB.out.cell 6
  simp only [List.getElem?_cons_zero, List.getElem?_cons_succ] at c0 c1 c2 c3 c4 c5 c6
  have f0 := HB.out.free 0
  have f1 := HB.out.free 1
  have f2 := HB.out.free 2
  have f3 := HB.out.free 3
  have f4 := HB.out.free 4
  have f5 := HB.out.free 5
  have f6 := HB.out.free 6
  have HS := Lib.hid ((((HB.out.set 5 (.bool false)).set 1 (.bool false)).set 3 (.slice none 0 0)).set 4 (.slice none 0 0))
  have HK := Lib.hid (((((Keep.refl [P] w).setCell (p := ⟨P, 5, none⟩) (.inl (by simp)) (.bool false)).setCell (p := ⟨P, 1, none⟩) (.inl (by simp)) (.bool false)).setCell (p := ⟨P, 3, none⟩) (.inl (by simp)) (.slice none 0 0)).setCell (p := ⟨P, 4, none⟩) (.inl (by simp)) (.slice none 0 0))
  go_enter Tryz.func24, Tryz.ntmps24
  go_wp2_with fail
  rw [store_fnP HS.out 0 _ rfl]
  simp only [Result.andThen]
  go_wp2_with fail
  go_end0
  exact ⟨rfl, HK.out.setCell (.inl (by simp)) _, HS.out.set 0 _⟩
set_option maxHeartbeats 4000000 in
set_option maxRecDepth 100000 in
theorem begin_fn (tk kn ls dv bv bg fv : Value) (P : Nat) (w : World) (hB : Blk w P [tk, kn, ls, dv, bv, bg, fv] 110) :
    Calls Tryz.prog 48 #[.pointer (some ⟨P, 0, none⟩)] w fun e w' => e = .returned (.tuple #[]) ∧ Keep [P] w w' ∧ Blk w' P [.func (.func 87) #[] #[], kn, ls, dv, bv, .bool true, fv] 110 := by
  have HB := Lib.hid hB; clear hB
  have c0 := HB.out.cell 0
  have c1 := HB.out.cell 1
  have c2 := HB.out.cell 2
  have c3 := HB.out.cell 3
  have c4 := HB.out.cell 4
  have c5 := HB.out.cell 5
  have c6 := HB.out.cell 6
  simp only [List.getElem?_cons_zero, List.getElem?_cons_succ] at c0 c1 c2 c3 c4 c5 c6
  have f0 := HB.out.free 0
  have f1 := HB.out.free 1
  have f2 := HB.out.free 2
  have f3 := HB.out.free 3
  have f4 := HB.out.free 4
  have f5 := HB.out.free 5
  have f6 := HB.out.free 6
  have HS := Lib.hid (HB.out.set 5 (.bool true))
  have HK := Lib.hid ((Keep.refl [P] w).setCell (p := ⟨P, 5, none⟩) (.inl (by simp)) (.bool true))
  go_enter Tryz.func48, Tryz.ntmps48
  go_wp2_with fail
  rw [store_fnP HS.out 0 _ rfl]
  simp only [Result.andThen]
  go_wp2_with fail
  go_end0
  exact ⟨rfl, HK.out.setCell (.inl (by simp)) _, HS.out.set 0 _⟩
end
end Go.Proofs.YtgopighmifpefaaGreatDoor
