/- What is proved here: the first element of a row that lies in a field is taken off. No condition. -/
import Derived.Test.YtbncejmohhejlaaFo1
import Derived.Test.YtbncejmohhejlaaRet
set_option linter.unusedVariables false
set_option linter.unusedSimpArgs false
namespace Go.Proofs.Ytbncejmohhejlaa
open Go.RowKit
set_option maxHeartbeats 4000000 in
set_option maxRecDepth 100000 in
theorem qspop_any (d : ByteArray) (g off : Nat) (cs : List Value) (T0 : TypeId) (v : Value) (n : Nat) (xs : List Value) (w : World) (hn : n ≤ 1000000) (hone : ∀ u ∈ xs, u.oneCell' = true) (hB : Blk w g cs T0) (hv : cs[off]? = some v) (hQ : QRow w 0 9 1 v (n + 1) ([.string d] ++ xs)) (hg : v.ownBlock ≠ some g) :
    Calls Try.prog 40 #[.pointer (some ⟨g, off, none⟩)] w fun e w' => e = .returned (.string d) ∧ ∃ v', Keep [g] w w' ∧ Blk w' g (cs.set off v') T0 ∧ QRow w' 0 9 1 v' n xs ∧ (∀ k, v'.ownBlock = some k → w.heap.size ≤ k) := by
  obtain ⟨i0, hi, hz0, hz1, hz2⟩ := info_parts info_s1
  obtain ⟨q, of, cap, hve, -, hqw, hcap, hcl, hfr⟩ := q_cells hQ (by omega)
  have hlen : xs.length = n * 1 := by have := q_len hQ; simp at this; omega
  have h0 : w.cell? ⟨q, of, none⟩ = some (.string d) := hcl 0 _ rfl
  subst hve
  have HX := Lib.hid (fun j u (hj : xs[j]? = some u) => (show w.cell? ⟨q, of + 1 + j, none⟩ = some u by rw [Nat.add_assoc, Nat.add_comm 1 j]; exact hcl (j + 1) u (by simpa using hj)))
  have HB := Lib.hid hB; have HG := Lib.hid hg; have HV := Lib.hid hv
  have HI := Lib.hid hi; have HZ0 := Lib.hid hz0; have HZ1 := Lib.hid hz1; have HZ2 := Lib.hid hz2; have HLN := Lib.hid hlen; have HO := Lib.hid hone
  clear hB hv hQ hg hcl hfr hi hz0 hz1 hz2 hlen hone
  have c0 := (HB.out.cell off).trans HV.out
  have f0 := HB.out.free off
  by_cases hc1 : cap = 1
  · obtain rfl : n = 0 := by omega
    subst hc1
    obtain rfl : xs = [] := List.eq_nil_of_length_eq_zero (by have := HLN.out; simpa using this)
    go_enter Try.func40, Try.ntmps40
    go_wp2_with (refine wpList_append_q _ rfl _ _ 62 9 1 16 i0 (.string ⟨#[]⟩) rfl Try.underlying62 HI.out HZ0.out rfl HZ1.out HZ2.out 0 (.slice none 0 0) 0 [] rfl (q_nil _ 0 _ _) q of 0 0 [] rfl (by simp) (by simp) (fun j u hj => by simp at hj) (by omega) (by unfold maxLen; omega) (Nat.zero_le _) ?_)
    intro v' W2 hq2 hk2 hm2
    have hB2 : Blk W2 g cs T0 := HB.out.keep hk2 (by simp [Value.ownBlock])
    have c0 := (hB2.cell off).trans HV.out
    have f0 := hB2.free off
    have HM := Lib.hid hm2; have HQ2 := Lib.hid hq2; have HK2 := Lib.hid hk2; have HB2 := Lib.hid hB2
    clear hm2 hq2 hk2 hB2
    obtain ⟨av, nv, cv, hav⟩ : ∃ a n c, v' = .slice a n c := by
      obtain ⟨a, c, h, _⟩ := q_form HQ2.out
      exact ⟨a, _, c, h⟩
    subst hav
    go_wp2_with fail
    go_ret
    refine ⟨rfl, .slice av nv cv, ?_, ?_, ?_, ?_⟩
    · exact (HK2.out.mono (fun i hi => by simp [Value.ownBlock] at hi)).setCell (p := ⟨g, off, none⟩) (.inl (by simp)) _
    · exact HB2.out.set off _
    · refine q_set (by simpa using HQ2.out) ?_ _
      intro h
      rcases HM.out with e | e
      · rw [h] at e; cases e
      · rw [h] at e; injection e with e; have := HB.out.lt; simp at e; omega
    · intro k hk
      rcases HM.out with e | e
      · rw [hk] at e; cases e
      · rw [hk] at e; injection e with e; omega
  · have k1 : (1 : Int) ≤ ((n + 1 : Nat) : Int) := by omega
    have k2 : (1 : Int) ≤ (cap : Int) := by omega
    have k3 : ((n + 1 : Nat) : Int) - 1 = (n : Int) := by omega
    go_enter Try.func40, Try.ntmps40
    go_wp2_with (refine wpList_append_q _ rfl _ _ 62 9 1 16 i0 (.string ⟨#[]⟩) rfl Try.underlying62 HI.out HZ0.out rfl HZ1.out HZ2.out 0 (.slice none 0 0) 0 [] rfl (q_nil _ 0 _ _) q (of + 1) n (cap - 1) xs rfl HLN.out HO.out HX.out (by omega) (by unfold maxLen; omega) (Nat.zero_le _) ?_)
    intro v' W2 hq2 hk2 hm2
    have hB2 : Blk W2 g cs T0 := HB.out.keep hk2 (by simp [Value.ownBlock])
    have c0 := (hB2.cell off).trans HV.out
    have f0 := hB2.free off
    have HM := Lib.hid hm2; have HQ2 := Lib.hid hq2; have HK2 := Lib.hid hk2; have HB2 := Lib.hid hB2
    clear hm2 hq2 hk2 hB2
    obtain ⟨av, nv, cv, hav⟩ : ∃ a n c, v' = .slice a n c := by
      obtain ⟨a, c, h, _⟩ := q_form HQ2.out
      exact ⟨a, _, c, h⟩
    subst hav
    go_wp2_with fail
    go_ret
    refine ⟨rfl, .slice av nv cv, ?_, ?_, ?_, ?_⟩
    · exact (HK2.out.mono (fun i hi => by simp [Value.ownBlock] at hi)).setCell (p := ⟨g, off, none⟩) (.inl (by simp)) _
    · exact HB2.out.set off _
    · refine q_set (by simpa using HQ2.out) ?_ _
      intro h
      rcases HM.out with e | e
      · rw [h] at e; cases e
      · rw [h] at e; injection e with e; have := HB.out.lt; simp at e; omega
    · intro k hk
      rcases HM.out with e | e
      · rw [hk] at e; cases e
      · rw [hk] at e; injection e with e; omega
set_option maxHeartbeats 4000000 in
set_option maxRecDepth 100000 in
theorem qupop_any (id : Int) (d : ByteArray) (mk : Bool) (g off : Nat) (cs : List Value) (T0 : TypeId) (v : Value) (n : Nat) (xs : List Value) (w : World) (hn : n ≤ 1000000) (hone : ∀ u ∈ xs, u.oneCell' = true) (hB : Blk w g cs T0) (hv : cs[off]? = some v) (hQ : QRow w 0 94 3 v (n + 1) ([.int .i64 id, .string d, .bool mk] ++ xs)) (hg : v.ownBlock ≠ some g) :
    Calls Try.prog 42 #[.pointer (some ⟨g, off, none⟩)] w fun e w' => e = .returned (.agg #[.int .i64 id, .string d, .bool mk]) ∧ ∃ v', Keep [g] w w' ∧ Blk w' g (cs.set off v') T0 ∧ QRow w' 0 94 3 v' n xs ∧ (∀ k, v'.ownBlock = some k → w.heap.size ≤ k) := by
  obtain ⟨i0, hi, hz0, hz1, hz2⟩ := info_parts info_unit
  obtain ⟨q, of, cap, hve, -, hqw, hcap, hcl, hfr⟩ := q_cells hQ (by omega)
  have hlen : xs.length = n * 3 := by have := q_len hQ; simp at this; omega
  have h0 : w.cell? ⟨q, of, none⟩ = some (.int .i64 id) := hcl 0 _ rfl
  have h1 : w.cell? ⟨q, of + 1, none⟩ = some (.string d) := hcl 1 _ rfl
  have h2 : w.cell? ⟨q, of + 2, none⟩ = some (.bool mk) := hcl 2 _ rfl
  subst hve
  have HX := Lib.hid (fun j u (hj : xs[j]? = some u) => (show w.cell? ⟨q, of + 3 + j, none⟩ = some u by rw [Nat.add_assoc, Nat.add_comm 3 j]; exact hcl (j + 3) u (by simpa using hj)))
  have HB := Lib.hid hB; have HG := Lib.hid hg; have HV := Lib.hid hv
  have HI := Lib.hid hi; have HZ0 := Lib.hid hz0; have HZ1 := Lib.hid hz1; have HZ2 := Lib.hid hz2; have HLN := Lib.hid hlen; have HO := Lib.hid hone
  clear hB hv hQ hg hcl hfr hi hz0 hz1 hz2 hlen hone
  have HA := Lib.hid ((Below.refl w.heap.size w).alloc (Nat.le_refl _) (Obj.cells #[.int .i64 0, .string ⟨#[]⟩, .bool false] 94))
  have g0 := (HA.out.cell (p := ⟨q, of, none⟩) hqw).trans h0
  have g1 := (HA.out.cell (p := ⟨q, of + 1, none⟩) hqw).trans h1
  have g2 := (HA.out.cell (p := ⟨q, of + 2, none⟩) hqw).trans h2
  have c0 := ((HB.out.below HA.out HB.out.lt).cell off).trans HV.out
  have f0 := (HB.out.below HA.out HB.out.lt).free off
  by_cases hc1 : cap = 1
  · obtain rfl : n = 0 := by omega
    subst hc1
    obtain rfl : xs = [] := List.eq_nil_of_length_eq_zero (by have := HLN.out; simpa using this)
    go_enter Try.func42, Try.ntmps42
    go_upto_region 2 with fail
    refine gen_world (fun W => Keep [] w W ∧ Blk W w.heap.size [.int .i64 0, .string ⟨#[]⟩, .bool false] 94 ∧ Blk W (w.heap.size + 1) [.int .i64 id, .string d, .bool mk] 94) ⟨?_, ?_, ?_⟩ ?_
    · exact ((Keep.refl [] w).alloc _).alloc _
    · exact (Blk.new w [.int .i64 0, .string ⟨#[]⟩, .bool false] 94).alloc _
    · exact Blk.new_at _ [.int .i64 id, .string d, .bool mk] 94 _ (by simp)
    rintro W1 ⟨hK, hR, hY⟩
    have HK := Lib.hid hK; have HR := Lib.hid hR; have HY := Lib.hid hY
    have HX1 := Lib.hid (fun j u (hj : [][j]? = some u) => (show W1.cell? ⟨q, of + j, none⟩ = some u from (HK.out.cell (p := ⟨q, of + j, none⟩) hqw (by simp)).trans (by simp at hj)))
    have HB1 := Lib.hid (HB.out.keep HK.out (by simp))
    have e0 := (HB1.out.cell off).trans HV.out
    clear hK hR hY
    go_wp2_with (refine wpList_append_q _ rfl _ _ 59 94 3 32 i0 (.agg #[.int .i64 0, .string ⟨#[]⟩, .bool false]) rfl Try.underlying59 HI.out HZ0.out rfl HZ1.out HZ2.out 0 (.slice none 0 0) 0 [] rfl (q_nil _ 0 _ _) q (of) 0 0 [] rfl (by simp) (by simp) HX1.out (by omega) (by unfold maxLen; omega) (Nat.zero_le _) ?_)
    intro v' W2 hq2 hk2 hm2
    have hB2 : Blk W2 g cs T0 := HB1.out.keep hk2 (by simp [Value.ownBlock])
    have e0 := (hB2.cell off).trans HV.out
    have e1 := hB2.free off
    have hR2 := HR.out.keep hk2 (by simp [Value.ownBlock])
    have hY2 := HY.out.keep hk2 (by simp [Value.ownBlock])
    have HM := Lib.hid hm2; have HQ2 := Lib.hid hq2; have HK2 := Lib.hid (HK.out.trans (hk2.mono (by simp [Value.ownBlock]))); have HB2 := Lib.hid hB2; have HR2 := Lib.hid hR2; have HY2 := Lib.hid hY2
    clear hm2 hq2 hk2 hB2 hR2 hY2
    obtain ⟨av, nv, cv, hav⟩ : ∃ a n c, v' = .slice a n c := by
      obtain ⟨a, c, h, _⟩ := q_form HQ2.out
      exact ⟨a, _, c, h⟩
    subst hav
    go_upto_region 3 with fail
    have hlt := HB.out.lt
    refine gen_world (fun W => Keep [g] w W ∧ Blk W g (cs.set off (.slice av nv cv)) T0 ∧ QRow W 0 94 3 (.slice av nv cv) 0 [] ∧ Blk W w.heap.size [.int .i64 0, .string ⟨#[]⟩, .bool false] 94 ∧ Blk W (w.heap.size + 1) [.int .i64 id, .string d, .bool mk] 94 ∧ (∀ k, (Value.slice av nv cv).ownBlock = some k → w.heap.size + 2 ≤ k)) ⟨(HK2.out.mono (fun i hi => by simp at hi)).setCell (p := ⟨g, off, none⟩) (.inl (by simp)) _, HB2.out.set off _, ?_, HR2.out.set_far (by simp; omega) _, HY2.out.set_far (by simp; omega) _, ?_⟩ ?_
    · refine q_set (by simpa using HQ2.out) ?_ _
      intro h
      rcases HM.out with e | e
      · rw [h] at e; cases e
      · rw [h] at e; injection e with e; have := HK.out.size; have : w.heap.size + 1 < W1.heap.size := HY.out.lt; simp at e; omega
    · intro k hk
      rcases HM.out with e | e
      · rw [hk] at e; cases e
      · rw [hk] at e; injection e with e; have : w.heap.size + 1 < W1.heap.size := HY.out.lt; omega
    rintro W3 ⟨hK3, hB3, hQ3, hR3, hY3, hM3⟩
    have HK3 := Lib.hid hK3; have HB3 := Lib.hid hB3; have HQ3 := Lib.hid hQ3; have HR3 := Lib.hid hR3; have HM3 := Lib.hid hM3
    have y0 := hY3.cell 0; have y1 := hY3.cell 1; have y2 := hY3.cell 2
    have r0 := hR3.cell 0; have r1 := hR3.cell 1; have r2 := hR3.cell 2
    have s0 := hR3.free 0; have s1 := hR3.free 1; have s2 := hR3.free 2
    simp only [List.getElem?_cons_zero, List.getElem?_cons_succ] at y0 y1 y2 r0 r1 r2
    have hgn : g ≠ w.heap.size := by omega
    have hqz : (Value.slice av nv cv).ownBlock ≠ some w.heap.size := fun h => by have := hM3 _ h; omega
    have HQN := Lib.hid hqz
    clear hK3 hB3 hQ3 hR3 hY3 hM3 hqz
    go_wp2_with fail
    refine ret_cell rfl w.heap.size 94 [.int .i64 id, .string d, .bool mk] rfl (((HR3.out.set 0 _).set 1 _).set 2 _) Try.underlying94 rfl (by kernel_rfl) rfl ?_
    refine ⟨rfl, .slice av nv cv, ?_, ?_, ?_, fun k hk => by have := HM3.out k hk; omega⟩
    · exact ((HK3.out.setCell (p := ⟨w.heap.size, 0, none⟩) (.inr (Nat.le_refl _)) _).setCell (p := ⟨w.heap.size, 1, none⟩) (.inr (Nat.le_refl _)) _).setCell (p := ⟨w.heap.size, 2, none⟩) (.inr (Nat.le_refl _)) _
    · exact ((HB3.out.set_far hgn _).set_far hgn _).set_far hgn _
    · have := q_set (q_set (q_set HQ3.out (p := ⟨w.heap.size, 0, none⟩) HQN.out (.int .i64 id)) (p := ⟨w.heap.size, 1, none⟩) HQN.out (.string d)) (p := ⟨w.heap.size, 2, none⟩) HQN.out (.bool mk)
      simpa using this
  · have k1 : (1 : Int) ≤ ((n + 1 : Nat) : Int) := by omega
    have k2 : (1 : Int) ≤ (cap : Int) := by omega
    have k3 : ((n + 1 : Nat) : Int) - 1 = (n : Int) := by omega
    go_enter Try.func42, Try.ntmps42
    go_upto_region 2 with fail
    refine gen_world (fun W => Keep [] w W ∧ Blk W w.heap.size [.int .i64 0, .string ⟨#[]⟩, .bool false] 94 ∧ Blk W (w.heap.size + 1) [.int .i64 id, .string d, .bool mk] 94) ⟨?_, ?_, ?_⟩ ?_
    · exact ((Keep.refl [] w).alloc _).alloc _
    · exact (Blk.new w [.int .i64 0, .string ⟨#[]⟩, .bool false] 94).alloc _
    · exact Blk.new_at _ [.int .i64 id, .string d, .bool mk] 94 _ (by simp)
    rintro W1 ⟨hK, hR, hY⟩
    have HK := Lib.hid hK; have HR := Lib.hid hR; have HY := Lib.hid hY
    have HX1 := Lib.hid (fun j u (hj : xs[j]? = some u) => (show W1.cell? ⟨q, of + 3 + j, none⟩ = some u from (HK.out.cell (p := ⟨q, of + 3 + j, none⟩) hqw (by simp)).trans (HX.out j u hj)))
    have HB1 := Lib.hid (HB.out.keep HK.out (by simp))
    have e0 := (HB1.out.cell off).trans HV.out
    clear hK hR hY
    go_wp2_with (refine wpList_append_q _ rfl _ _ 59 94 3 32 i0 (.agg #[.int .i64 0, .string ⟨#[]⟩, .bool false]) rfl Try.underlying59 HI.out HZ0.out rfl HZ1.out HZ2.out 0 (.slice none 0 0) 0 [] rfl (q_nil _ 0 _ _) q (of + 3) n (cap - 1) xs rfl HLN.out HO.out HX1.out (by omega) (by unfold maxLen; omega) (Nat.zero_le _) ?_)
    intro v' W2 hq2 hk2 hm2
    have hB2 : Blk W2 g cs T0 := HB1.out.keep hk2 (by simp [Value.ownBlock])
    have e0 := (hB2.cell off).trans HV.out
    have e1 := hB2.free off
    have hR2 := HR.out.keep hk2 (by simp [Value.ownBlock])
    have hY2 := HY.out.keep hk2 (by simp [Value.ownBlock])
    have HM := Lib.hid hm2; have HQ2 := Lib.hid hq2; have HK2 := Lib.hid (HK.out.trans (hk2.mono (by simp [Value.ownBlock]))); have HB2 := Lib.hid hB2; have HR2 := Lib.hid hR2; have HY2 := Lib.hid hY2
    clear hm2 hq2 hk2 hB2 hR2 hY2
    obtain ⟨av, nv, cv, hav⟩ : ∃ a n c, v' = .slice a n c := by
      obtain ⟨a, c, h, _⟩ := q_form HQ2.out
      exact ⟨a, _, c, h⟩
    subst hav
    go_upto_region 3 with fail
    have hlt := HB.out.lt
    refine gen_world (fun W => Keep [g] w W ∧ Blk W g (cs.set off (.slice av nv cv)) T0 ∧ QRow W 0 94 3 (.slice av nv cv) n xs ∧ Blk W w.heap.size [.int .i64 0, .string ⟨#[]⟩, .bool false] 94 ∧ Blk W (w.heap.size + 1) [.int .i64 id, .string d, .bool mk] 94 ∧ (∀ k, (Value.slice av nv cv).ownBlock = some k → w.heap.size + 2 ≤ k)) ⟨(HK2.out.mono (fun i hi => by simp at hi)).setCell (p := ⟨g, off, none⟩) (.inl (by simp)) _, HB2.out.set off _, ?_, HR2.out.set_far (by simp; omega) _, HY2.out.set_far (by simp; omega) _, ?_⟩ ?_
    · refine q_set (by simpa using HQ2.out) ?_ _
      intro h
      rcases HM.out with e | e
      · rw [h] at e; cases e
      · rw [h] at e; injection e with e; have := HK.out.size; have : w.heap.size + 1 < W1.heap.size := HY.out.lt; simp at e; omega
    · intro k hk
      rcases HM.out with e | e
      · rw [hk] at e; cases e
      · rw [hk] at e; injection e with e; have : w.heap.size + 1 < W1.heap.size := HY.out.lt; omega
    rintro W3 ⟨hK3, hB3, hQ3, hR3, hY3, hM3⟩
    have HK3 := Lib.hid hK3; have HB3 := Lib.hid hB3; have HQ3 := Lib.hid hQ3; have HR3 := Lib.hid hR3; have HM3 := Lib.hid hM3
    have y0 := hY3.cell 0; have y1 := hY3.cell 1; have y2 := hY3.cell 2
    have r0 := hR3.cell 0; have r1 := hR3.cell 1; have r2 := hR3.cell 2
    have s0 := hR3.free 0; have s1 := hR3.free 1; have s2 := hR3.free 2
    simp only [List.getElem?_cons_zero, List.getElem?_cons_succ] at y0 y1 y2 r0 r1 r2
    have hgn : g ≠ w.heap.size := by omega
    have hqz : (Value.slice av nv cv).ownBlock ≠ some w.heap.size := fun h => by have := hM3 _ h; omega
    have HQN := Lib.hid hqz
    clear hK3 hB3 hQ3 hR3 hY3 hM3 hqz
    go_wp2_with fail
    refine ret_cell rfl w.heap.size 94 [.int .i64 id, .string d, .bool mk] rfl (((HR3.out.set 0 _).set 1 _).set 2 _) Try.underlying94 rfl (by kernel_rfl) rfl ?_
    refine ⟨rfl, .slice av nv cv, ?_, ?_, ?_, fun k hk => by have := HM3.out k hk; omega⟩
    · exact ((HK3.out.setCell (p := ⟨w.heap.size, 0, none⟩) (.inr (Nat.le_refl _)) _).setCell (p := ⟨w.heap.size, 1, none⟩) (.inr (Nat.le_refl _)) _).setCell (p := ⟨w.heap.size, 2, none⟩) (.inr (Nat.le_refl _)) _
    · exact ((HB3.out.set_far hgn _).set_far hgn _).set_far hgn _
    · have := q_set (q_set (q_set HQ3.out (p := ⟨w.heap.size, 0, none⟩) HQN.out (.int .i64 id)) (p := ⟨w.heap.size, 1, none⟩) HQN.out (.string d)) (p := ⟨w.heap.size, 2, none⟩) HQN.out (.bool mk)
      simpa using this
end Go.Proofs.Ytbncejmohhejlaa
