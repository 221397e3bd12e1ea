/- What is proved here: the walk of the law about Cut. -/
import Derived.Test.YtkpgenmlpkfokaaN30
set_option linter.unusedVariables false
set_option linter.unusedSimpArgs false
namespace Go.Proofs.Ytkpgenmlpkfokaa
open Go.RowKit
theorem URow.below {w w' : World} {base B : Nat} {v : Value} {l : List Un} (h : URow w base v l) (k : Below B w w') (hB : w.heap.size ≤ B) : URow w' base v l := h.keep (Keep.ofBelow (k.mono hB)) (fun _ _ => by simp)
theorem URow.mono {w : World} {base base' : Nat} {v : Value} {l : List Un} (h : URow w base v l) (hb : base' ≤ base) : URow w base' v l := by
  obtain ⟨hl, h | ⟨g, cap, cur, hv, hb2, h⟩⟩ := h
  · exact ⟨hl, .inl h⟩
  · exact ⟨hl, .inr ⟨g, cap, cur, hv, by omega, h⟩⟩
theorem pieces_le (size most : Nat) (h1 : 1 ≤ most) (h2 : most ≤ 160) (h3 : size ≤ 65535) : pieces size most ≤ 65535 := by
  unfold pieces
  refine Nat.le_trans (Nat.div_le_div_right (c := most) (show size + most - 1 ≤ 65535 * most by have : 65535 * 1 ≤ 65535 * most := Nat.mul_le_mul_left _ h1; omega)) ?_
  rw [Nat.mul_div_cancel _ (by omega)]; exact Nat.le_refl _
theorem cutS_len (num : Int) (file : ByteArray) (most : Int) : (cutS num file most).1.length ≤ 65535 := by
  unfold cutS
  split
  · simp
  · rename_i h
    split
    · simp
    · rw [cutL_length]; exact pieces_le _ _ (by omega) (by omega) (by omega)
theorem cutS_gaps (num : Int) (file : ByteArray) (most : Int) : ∀ u ∈ (cutS num file most).1, u.gaps = [] := by
  unfold cutS
  intro u hu
  split at hu
  · simp at hu
  · split at hu
    · simp at hu
    · simp only [cutL, List.mem_map] at hu
      obtain ⟨i, -, rfl⟩ := hu
      rfl
theorem Un.val_nogaps (u : Un) (h : u.gaps = []) (w : World) : GapsAt w (.slice none 0 0) u.gaps := by rw [h]; exact GapsAt.nil w
theorem vSame_self (u : Un) (h : u.gaps = []) (w : World) : Calls Try.prog 19 #[u.val (.slice none 0 0), u.val (.slice none 0 0)] w fun e w' => ∃ v, e = .returned v ∧ (v = .bool true ∧ Below w.heap.size w w') :=
  (vSame_any u u _ _ w (by rw [h]; decide) (by rw [h]; decide) (u.val_nogaps h w) (u.val_nogaps h w)).mono fun e w' hh => ⟨_, hh.1, by rw [(sameU_iff u u).2 rfl], hh.2⟩
set_option maxHeartbeats 4000000 in
set_option maxRecDepth 100000 in
theorem UnitsCuts_any (num : Int) (p : ByteArray) (most : Int) (w : World) : Calls Try.prog 5 #[.int .i64 num, .string p, .int .i64 most] w fun e w' => e = .returned (.bool true) ∧ Below w.heap.size w w' := by
  by_cases h0 : 70000 < p.size
  · have k0 : (70000 : Int) < p.size := by omega
    go_enter Try.func5, Try.ntmps5
    go_wp2_with fail
    refine (shown37_any _).mono ?_
    rintro e w1 ⟨rfl, hL1⟩
    have HL1 := Lib.hid hL1; clear hL1
    go_wp2_with fail
    go_ret
    exact ⟨rfl, HL1.out⟩
  · have k0 : ¬ (70000 : Int) < p.size := by omega
    have HS1 := Lib.hid (fun W => uCut_any num p most W)
    have HS2 := Lib.hid (fun W => vCut_any num p most W)
    have hn := cutS_len num p most
    have hgp := cutS_gaps num p most
    obtain ⟨L, hL⟩ : ∃ L, L = (cutS num p most).1 := ⟨_, rfl⟩
    obtain ⟨er, her⟩ : ∃ er, er = (cutS num p most).2 := ⟨_, rfl⟩
    rw [← hL, ← her] at HS1 HS2
    rw [← hL] at hn hgp
    have HGP := Lib.hid hgp
    clear hL her hgp h0
    go_enter Try.func5, Try.ntmps5
    go_wp2_with fail
    refine (shown37_any _).mono ?_
    rintro e w1 ⟨rfl, hL1⟩
    have HL1 := Lib.hid hL1; clear hL1
    go_wp2_with fail
    refine (HS1.out _).mono ?_
    rintro e w2 ⟨v, rfl, hR2, hL2⟩
    have HL2 := Lib.hid (HL1.out.trans (hL2.mono HL1.out.size))
    have HR2 := Lib.hid (URow.mono hR2 HL1.out.size); clear hL2 hR2 HL1
    go_wp2_with fail
    refine (HS2.out _).mono ?_
    rintro e w3 ⟨u, rfl, hR3, hL3⟩
    have HR4 := Lib.hid (HR2.out.below hL3 (Nat.le_refl _))
    have HR3 := Lib.hid (URow.mono hR3 HL2.out.size)
    have HL3 := Lib.hid (HL2.out.trans (hL3.mono HL2.out.size)); clear hL3 hR3 HL2 HR2 HS1 HS2
    obtain ⟨a1, c1, rfl⟩ := HR4.out.form
    obtain ⟨a2, c2, rfl⟩ := HR3.out.form
    obtain ⟨n, hnn⟩ : ∃ n, n = L.length := ⟨_, rfl⟩
    have HN := Lib.hid hnn
    rw [← hnn] at hn ⊢
    clear hnn
    go_wp2_with fail
    go_loopg [11] n (fun r iv wr => ∃ i : Nat, i ≤ n ∧ r = n - i ∧ iv = .int .i64 (i : Int) ∧ URow wr w.heap.size (.slice a1 L.length c1) L ∧ URow wr w.heap.size (.slice a2 L.length c2) L ∧ Below w.heap.size w wr)
    case atStart => exact ⟨0, by omega, by omega, rfl, HR4.out, HR3.out, HL3.out⟩
    case round =>
      obtain ⟨i, hi, hr, rfl, hR1, hR2, hL⟩ := hrel
      have HR := Lib.hid hR1; have HQ := Lib.hid hR2; have HL := Lib.hid hL; have HRR := Lib.hid hr
      clear hR1 hR2 hL hr
      by_cases hlt : i < n
      · have hlt' := hlt
        rw [HN.out] at hlt'
        obtain ⟨g1, k1, e1, hg1, hc1⟩ := HR.out.cell i hlt'
        obtain ⟨g2, k2, e2, hg2, hc2⟩ := HQ.out.cell i hlt'
        obtain ⟨rfl, rfl⟩ : a1 = some ⟨g1, 0, none⟩ ∧ c1 = k1 := by injection e1 with e1 e2 e3; exact ⟨e1, e3⟩
        obtain ⟨rfl, rfl⟩ : a2 = some ⟨g2, 0, none⟩ ∧ c2 = k2 := by injection e2 with e1 e2 e3; exact ⟨e1, e3⟩
        have hgu := HGP.out L[i] (List.getElem_mem hlt')
        obtain ⟨u, hu⟩ : ∃ u, u = L[i] := ⟨_, rfl⟩
        rw [← hu] at hc1 hc2 hgu
        have HS := Lib.hid (fun W => vSame_self u hgu W)
        obtain ⟨ki, nu, nm, sz, su, of, da, wy, an, me, gs⟩ := u
        simp only [ncells, Un.cells, Un.val] at hc1 hc2 HS
        have x0 := hc1 0 (by omega)
        have y0 := hc2 0 (by omega)
        have x1 := hc1 1 (by omega)
        have y1 := hc2 1 (by omega)
        have x2 := hc1 2 (by omega)
        have y2 := hc2 2 (by omega)
        have x3 := hc1 3 (by omega)
        have y3 := hc2 3 (by omega)
        have x4 := hc1 4 (by omega)
        have y4 := hc2 4 (by omega)
        have x5 := hc1 5 (by omega)
        have y5 := hc2 5 (by omega)
        have x6 := hc1 6 (by omega)
        have y6 := hc2 6 (by omega)
        have x7 := hc1 7 (by omega)
        have y7 := hc2 7 (by omega)
        have x8 := hc1 8 (by omega)
        have y8 := hc2 8 (by omega)
        have x9 := hc1 9 (by omega)
        have y9 := hc2 9 (by omega)
        have x10 := hc1 10 (by omega)
        have y10 := hc2 10 (by omega)
        simp only [List.getElem?_cons_zero, List.getElem?_cons_succ, Nat.add_zero] at x0 y0 x1 y1 x2 y2 x3 y3 x4 y4 x5 y5 x6 y6 x7 y7 x8 y8 x9 y9 x10 y10
        clear hc1 hc2 hu hgu e1 e2
        go_wp2_with fail
        go_region_law (refine step_call rfl 19 _ _ rfl _ (by kernel_rfl) _ (HS.out _) ?_; rintro v5 w5 ⟨rfl, hL5⟩)
        all_goals
          replace hL5 := (below_quiet wr 1).1.trans hL5
          have HR5 := Lib.hid (HR.out.below hL5 (Nat.le_refl _))
          have HQ5 := Lib.hid (HQ.out.below hL5 (Nat.le_refl _))
          have HL5 := Lib.hid (HL.out.trans (hL5.mono HL.out.size))
          go_wp2_with fail
          go_roundg (n - (i + 1))
          case measure => have := HRR.out; omega
          case rel => exact ⟨i + 1, by omega, rfl, by go_num, HR5.out, HQ5.out, HL5.out⟩
      · obtain rfl : i = n := by omega
        go_wp2_with fail
        go_ret
        exact ⟨rfl, HL.out⟩
end Go.Proofs.Ytkpgenmlpkfokaa
