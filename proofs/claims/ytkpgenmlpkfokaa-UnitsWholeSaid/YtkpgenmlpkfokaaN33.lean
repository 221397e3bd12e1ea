/- What is proved here: the walk of the law about the pieces of a file. -/
import Derived.Test.YtkpgenmlpkfokaaN32
import Derived.Test.YtkpgenmlpkfokaaKit
set_option linter.unusedVariables false
set_option linter.unusedSimpArgs false
namespace Go.Proofs.Ytkpgenmlpkfokaa
open Go.RowKit
theorem piece_facts (num : Int) (p : ByteArray) (m i : Nat) (hn : 0 ≤ num ∧ num ≤ 65535) (h1 : 1 ≤ m) (h2 : m ≤ 160) (hp : p.size ≤ 65535) (hi : i < pieces p.size m) :
    ∃ d : ByteArray, pieceU num p m i = ⟨2, num, ⟨#[]⟩, 0, 0, ((i * m : Nat) : Int), d, 0, 0, false, []⟩ ∧ p.extract (i * m) (i * m + d.size) = d ∧ 1 ≤ d.size ∧ d.size ≤ m ∧ i * m + d.size ≤ p.size ∧ (i + 1 < pieces p.size m → d.size = m) ∧ i * m + d.size = min ((i + 1) * m) p.size ∧ validS (pieceU num p m i) = true := by
  have hl := (pieces_lt p.size m i h1).1 hi
  have hsz : (p.extract (i * m) (min (i * m + m) p.size)).size = min (i * m + m) p.size - i * m := by simp <;> omega
  have hsm : (i + 1) * m = i * m + m := Nat.succ_mul i m
  refine ⟨_, rfl, ?_, ?_, ?_, ?_, ?_, ?_, ?_⟩
  · rw [hsz]; congr 1; omega
  · rw [hsz]; omega
  · rw [hsz]; omega
  · rw [hsz]; omega
  · intro h
    have := (pieces_lt p.size m (i + 1) h1).1 h
    rw [hsz]; omega
  · rw [hsz, hsm]; omega
  · refine (validS_of (by show (1:Int) ≤ 2 ∧ (2:Int) ≤ 6; omega) hn rfl).trans ?_
    show (decide (1 ≤ ((p.extract (i * m) (min (i * m + m) p.size)).size : Int) ∧ ((p.extract (i * m) (min (i * m + m) p.size)).size : Int) ≤ 160) && decide (0 ≤ ((i * m : Nat) : Int) ∧ ((i * m : Nat) : Int) ≤ 65535 - ((p.extract (i * m) (min (i * m + m) p.size)).size : Int))) = true
    rw [hsz]
    generalize i * m = a at *
    rw [decide_eq_true (by omega), decide_eq_true (by omega)]; rfl
theorem pieces_end (size m : Nat) (h1 : 1 ≤ m) : size ≤ pieces size m * m := by
  have := (pieces_lt size m (pieces size m) h1)
  have h : ¬ pieces size m * m < size := fun h => Nat.lt_irrefl _ (this.2 h)
  omega
theorem uValid_true (u : Un) (h : u.gaps = []) (hs : wideU u) (hv : validS u = true) (w : World) : Calls Try.prog 14 #[u.val (.slice none 0 0)] w fun e w' => e = .returned (.bool true) ∧ Below w.heap.size w w' :=
  (uValid_any u _ w hs (u.val_nogaps h w)).mono fun e w' hh => ⟨by rw [hh.1, hv], hh.2⟩
theorem urow_cl {w : World} {base g : Nat} {cap : Nat} {l : List Un} (h : URow w base (.slice (some ⟨g, 0, none⟩) l.length cap) l) (i : Nat) (hi : i < l.length) (j : Nat) (hj : j < 11) (x : Cl w.heap.size w) : x.val.cell? ⟨g, i * 11 + j, none⟩ = (ncells l[i])[j]? := by
  obtain ⟨g', cap', e, hg, hc⟩ := h.cell i hi
  injection e with e1 e2 e3
  injection e1 with e1
  injection e1 with e1
  subst e1
  exact (x.below.cell (p := ⟨g, i * 11 + j, none⟩) hg).trans (hc j hj)
set_option maxHeartbeats 8000000 in
set_option maxRecDepth 100000 in
theorem UnitsWhole_any (num : Int) (p : ByteArray) (size : Int) (w : World) (hn1 : -9223372036854775808 ≤ num) (hn2 : num ≤ 9223372036854775807) (hs1 : -9223372036854775808 ≤ size) (hs2 : size ≤ 9223372036854775807) :
    Calls Try.prog 8 #[.int .i64 num, .string p, .int .i64 size] w fun e w' => e = .returned (.bool true) ∧ Below w.heap.size w w' := by
  by_cases h0 : 70000 < p.size
  · have k0 : (70000 : Int) < p.size := by omega
    clear hn1 hn2 hs1 hs2
    go_enter Try.func8, Try.ntmps8
    go_wp2_with fail
    refine (shown37_any _).mono ?_
    rintro e w1 ⟨rfl, hL1⟩
    have HL1 := Lib.hid hL1; clear hL1
    go_wp2_with fail
    go_ret
    exact ⟨rfl, HL1.out⟩
  · have k0 : ¬ (70000 : Int) < p.size := by omega
    obtain ⟨q, hq⟩ : ∃ q : Nat, size % 160 = q := ⟨(size % 160).toNat, (Int.toNat_of_nonneg (Int.emod_nonneg _ (by omega))).symm⟩
    obtain ⟨nn, hnn⟩ : ∃ nn : Nat, num % 65536 = nn := ⟨(num % 65536).toNat, (Int.toNat_of_nonneg (Int.emod_nonneg _ (by omega))).symm⟩
    have hq2 : q ≤ 159 := by have := Int.emod_lt_of_pos size (show (0 : Int) < 160 by omega); omega
    have hnn2 : nn ≤ 65535 := by have := Int.emod_lt_of_pos num (show (0 : Int) < 65536 by omega); omega
    have hP1 := fun W => pick_any size 160 W (by omega) (by omega) hs1 hs2
    have hP2 := fun W => pick_any num 65536 W (by omega) (by omega) hn1 hn2
    rw [hq] at hP1
    rw [hnn] at hP2
    obtain ⟨m, hm⟩ : ∃ m, m = 1 + q := ⟨_, rfl⟩
    have hmc : (1 : Int) + (q : Int) = (m : Int) := by omega
    have hm1 : 1 ≤ m := by omega
    have hm2 : m ≤ 160 := by omega
    have HP1 := Lib.hid hP1; have HP2 := Lib.hid hP2; have HMC := Lib.hid hmc
    have hS := fun W => uCut_any (nn : Int) p (m : Int) W
    clear hP1 hP2 hmc hn1 hn2 hs1 hs2 hq hnn hm
    by_cases h1 : 65535 < p.size
    · rw [show cutS (nn : Int) p (m : Int) = ([], 3) by unfold cutS; rw [if_neg (by omega), if_pos h1]] at hS
      have HS := Lib.hid hS
      have k1 : (65535 : Int) < p.size := by omega
      clear hS h0 h1
      go_enter Try.func8, Try.ntmps8
      go_wp2_with fail
      refine (shown37_any _).mono ?_
      rintro e w1 ⟨rfl, hL1⟩
      have HL1 := Lib.hid hL1; clear hL1
      go_wp2_with fail
      refine (HP1.out _).mono ?_
      rintro e _ ⟨rfl, rfl⟩
      go_wp2_with fail
      refine (HP2.out _).mono ?_
      rintro e _ ⟨rfl, rfl⟩
      go_wp2_with fail
      rw [HMC.out]
      refine (HS.out _).mono ?_
      rintro e w2 ⟨v, rfl, hR2, hL2⟩
      have HL2 := Lib.hid (HL1.out.trans (hL2.mono HL1.out.size)); clear hL2 hR2 HL1
      go_wp2_with fail
      go_ret
      exact ⟨rfl, HL2.out⟩
    · obtain ⟨n, hn⟩ : ∃ n, n = pieces p.size m := ⟨_, rfl⟩
      have hps : p.size ≤ 65535 := by omega
      have hpf := fun i => piece_facts (nn : Int) p m i (by omega) hm1 hm2 hps
      have hpe := pieces_end p.size m hm1
      have hpl := pieces_le p.size m hm1 hm2 hps
      rw [show cutS (nn : Int) p (m : Int) = (cutL (nn : Int) p m (pieces p.size m), 0) by unfold cutS; rw [if_neg (by omega), if_neg h1]; rfl] at hS
      rw [← hn] at hpf hpe hpl hS
      have hll : (cutL (nn : Int) p m n).length = n := cutL_length _ _ _ _
      have hlg : ∀ i, i < n → (cutL (nn : Int) p m n)[i]? = some (pieceU (nn : Int) p m i) := fun i h => by simp [cutL, h]
      obtain ⟨L, hL⟩ : ∃ L, L = cutL (nn : Int) p m n := ⟨_, rfl⟩
      rw [← hL] at hll hS hlg
      have HS := Lib.hid hS; have HPF := Lib.hid hpf; have HPE := Lib.hid hpe; have HLL := Lib.hid hll; have HLG := Lib.hid hlg
      clear hS hpf hpe hll hlg hL hn h0 h1
      go_enter Try.func8, Try.ntmps8
      go_wp2_with fail
      refine (shown37_any _).mono ?_
      rintro e w1 ⟨rfl, hL1⟩
      have HL1 := Lib.hid hL1; clear hL1
      go_wp2_with fail
      refine (HP1.out _).mono ?_
      rintro e _ ⟨rfl, rfl⟩
      go_wp2_with fail
      refine (HP2.out _).mono ?_
      rintro e _ ⟨rfl, rfl⟩
      go_wp2_with fail
      rw [HMC.out]
      refine (HS.out _).mono ?_
      rintro e w2 ⟨v, rfl, hR2, hL2⟩
      have HR2 := Lib.hid (URow.mono hR2 HL1.out.size)
      have HL2 := Lib.hid (HL1.out.trans (hL2.mono HL1.out.size)); clear hL2 hR2 HL1
      obtain ⟨a1, c1, rfl⟩ := HR2.out.form
      have hRl := HR2.out
      rw [HLL.out] at hRl ⊢
      go_wp2_with fail
      go_loopg [10, 11] n (fun r av iv wr => ∃ i a : Nat, i ≤ n ∧ r = n - i ∧ iv = .int .i64 (i : Int) ∧ av = .int .i64 (a : Int) ∧ Hid (a = min (i * m) p.size) ∧ URow wr w.heap.size (.slice a1 L.length c1) L ∧ Below w.heap.size w wr)
      case atStart => exact ⟨0, 0, by omega, by omega, rfl, rfl, Lib.hid (by simp), HR2.out, HL2.out⟩
      case round =>
        obtain ⟨i, a, hi, hr, rfl, rfl, ha, hR, hL⟩ := hrel
        have HR := Lib.hid hR; have HL := Lib.hid hL; have HRR := Lib.hid hr
        clear hR hL hr hRl
        by_cases hlt : i < n
        · skip
          have hlL : i < L.length := by rw [HLL.out]; exact hlt
          obtain ⟨d, hd1, hd2, hd3, hd4, hd5, hd6, hd7, hd8⟩ := HPF.out i hlt
          have hLi : L[i] = pieceU (nn : Int) p m i := by
            have h9 := HLG.out i hlt
            rw [List.getElem?_eq_getElem hlL] at h9
            exact Option.some.inj h9
          have hai : a = i * m := by have := ha.out; generalize i * m = z at *; omega
          rw [← hai] at hd1 hd2 hd5 hd7
          obtain ⟨g1, k1, e1, hg1, hc1⟩ := HR.out.cell i hlL
          obtain ⟨rfl, rfl⟩ : a1 = some ⟨g1, 0, none⟩ ∧ c1 = k1 := by injection e1 with e1 e2 e3; exact ⟨e1, e3⟩
          have hcl := fun j hj x => urow_cl HR.out i hlL j hj x
          rw [hLi, hd1] at hc1 hcl
          have HV := Lib.hid (fun W => uValid_true _ rfl ⟨by rw [hd1]; exact Nat.zero_le _, by rw [hd1]; show d.size ≤ 9223372036854775807; omega, by rw [hd1]; exact Nat.zero_le _⟩ hd8 W)
          rw [hd1] at HV
          simp only [ncells, Un.cells, Un.val] at hc1 hcl HV
          have x5 := hc1 5 (by omega)
          have x6 := hc1 6 (by omega)
          simp only [List.getElem?_cons_zero, List.getElem?_cons_succ] at x5 x6
          have y0 := hcl 0 (by omega)
          have y1 := hcl 1 (by omega)
          have y2 := hcl 2 (by omega)
          have y3 := hcl 3 (by omega)
          have y4 := hcl 4 (by omega)
          have y5 := hcl 5 (by omega)
          have y6 := hcl 6 (by omega)
          have y7 := hcl 7 (by omega)
          have y8 := hcl 8 (by omega)
          have y9 := hcl 9 (by omega)
          have y10 := hcl 10 (by omega)
          simp only [List.getElem?_cons_zero, List.getElem?_cons_succ, Nat.add_zero] at y0 y1 y2 y3 y4 y5 y6 y7 y8 y9 y10
          have HD7 := Lib.hid hd7
          have hd9 := Nat.le_trans hd5 hps
          have t1 : decide ((p.size : Int) < (a : Int) + (d.size : Int)) = false := decide_eq_false (by omega)
          have t2 : decide ((d.size : Int) < 1) = false := decide_eq_false (by omega)
          have t3' : decide (m < d.size) = false := decide_eq_false (by omega)
          have t3 : decide ((m : Int) < (d.size : Int)) = false := decide_eq_false (by omega)
          clear hc1 hcl hLi hd1 hd8 hd7 hai ha e1
          have HL2' := HL
          by_cases hlast : i + 1 < n
          · have hdm := hd6 hlast
            have kl : decide ((i : Int) < (n : Int) - 1) = true := decide_eq_true (by omega)
            have t4 : ((d.size : Int) != (m : Int)) = false := by rw [hdm]; simp
            have t4' : (d.size != m) = false := by rw [hdm]; simp
            clear hdm
            clear hd6
            go_upto_region 14 with fail
            refine region_calm wr.heap.size (by kernel_rfl) (by kernel_rfl) ?_
            repeat (go_big_quiet_step ((first | (go_at_call 14; exact cl_call _ (Nat.le_refl _) (HV.out _)))))
            refine wpQuiet_nil ?_
            intro w5 hL5
            have HR5 := Lib.hid (HR.out.below hL5 (Nat.le_refl _))
            have HL5 := Lib.hid (HL.out.trans (hL5.mono HL.out.size))
            go_wp2_with fail
            go_roundg (n - (i + 1))
            case measure => have := HRR.out; omega
            case rel => exact ⟨i + 1, a + d.size, by omega, rfl, by go_num, by go_num, HD7, HR5.out, HL5.out⟩
          · have kl : ¬ (i : Int) < (n : Int) - 1 := by omega
            clear hd6
            go_upto_region 14 with fail
            refine region_calm wr.heap.size (by kernel_rfl) (by kernel_rfl) ?_
            repeat (go_big_quiet_step ((first | (go_at_call 14; exact cl_call _ (Nat.le_refl _) (HV.out _)))))
            refine wpQuiet_nil ?_
            intro w5 hL5
            have HR5 := Lib.hid (HR.out.below hL5 (Nat.le_refl _))
            have HL5 := Lib.hid (HL.out.trans (hL5.mono HL.out.size))
            go_wp2_with fail
            go_roundg (n - (i + 1))
            case measure => have := HRR.out; omega
            case rel => exact ⟨i + 1, a + d.size, by omega, rfl, by go_num, by go_num, HD7, HR5.out, HL5.out⟩
        · obtain rfl : i = n := by omega
          have hae : a = p.size := by have := ha.out; have := HPE.out; omega
          subst hae
          go_wp2_with fail
          go_ret
          exact ⟨rfl, HL.out⟩
end Go.Proofs.Ytkpgenmlpkfokaa
