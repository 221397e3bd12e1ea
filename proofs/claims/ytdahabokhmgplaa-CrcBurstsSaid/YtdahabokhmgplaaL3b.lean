/- What is proved here: the walk of the law CrcBursts. -/
import Derived.Test.YtdahabokhmgplaaL3
import Derived.Test.YtdahabokhmgplaaCrc3
set_option linter.unusedVariables false
set_option linter.unusedSimpArgs false
namespace Go.Proofs.Ytdahabokhmgplaa
open Go.RowKit
attribute [local go_sem] run_bytes bytes_size
theorem mk_toList (l : List UInt8) : (⟨l.toArray⟩ : ByteArray).data.toList = l := rfl
theorem mk_data (b : ByteArray) : (⟨b.data.toList.toArray⟩ : ByteArray) = b := by
  apply ByteArray.ext; apply Array.ext'; rfl
set_option maxRecDepth 100000 in
set_option maxHeartbeats 4000000 in
theorem bursts_walk (b : ByteArray) (at_ : Int) (ch : BitVec 32) (h3 : -9223372036854775808 ≤ at_) (h4 : at_ ≤ 9223372036854775807) (w : World) : Calls Try.prog 6 #[.string b, .int .i64 at_, .int .u32 (w32 ch)] w fun e w' => e = .returned (.bool true) ∧ Below w.heap.size w w' := by
  have HL0 := Lib.hid (Below.refl w.heap.size w)
  by_cases hz : b.size = 0
  · have hz1 : ((b.size : Int) == 0) = true := by rw [hz]; rfl
    go_enter Try.func6, Try.ntmps6
    go_wp2_with fail
    refine (awake_any _).mono ?_
    rintro e w1 ⟨rfl, hL⟩
    have HL1 := Lib.hid (HL0.out.trans (hL.mono HL0.out.size)); clear hL
    go_wp2_with fail
    go_ret
    exact ⟨rfl, HL1.out⟩
  have hz1 : ((b.size : Int) == 0) = false := by rw [beq_eq_false_iff_ne]; omega
  by_cases hl : 5000 < b.size
  · have hl1 : decide ((5000 : Int) < (b.size : Int)) = true := by simp; omega
    go_enter Try.func6, Try.ntmps6
    go_wp2_with fail
    refine (awake_any _).mono ?_
    rintro e w1 ⟨rfl, hL⟩
    have HL1 := Lib.hid (HL0.out.trans (hL.mono HL0.out.size)); clear hL
    go_wp2_with fail
    go_ret
    exact ⟨rfl, HL1.out⟩
  have hl1 : decide ((5000 : Int) < (b.size : Int)) = false := by simp; omega
  by_cases hc : ch = 0#32
  · have hc1 : (w32 ch == 0) = true := by rw [hc]; rfl
    go_enter Try.func6, Try.ntmps6
    go_wp2_with fail
    refine (awake_any _).mono ?_
    rintro e w1 ⟨rfl, hL⟩
    have HL1 := Lib.hid (HL0.out.trans (hL.mono HL0.out.size)); clear hL
    go_wp2_with fail
    go_ret
    exact ⟨rfl, HL1.out⟩
  have hc1 : (w32 ch == 0) = false := by
    rw [beq_eq_false_iff_ne]; intro e
    exact hc (BitVec.eq_of_toNat_eq (by unfold w32 at e; simpa using e))
  clear hc
  go_enter Try.func6, Try.ntmps6
  go_wp2_with fail
  refine (pick_any at_ _ _ (by omega) (by omega) h3 h4).mono ?_
  obtain ⟨k, hk⟩ : ∃ k, k = (at_ % (8 * b.size : Nat)).toNat := ⟨_, rfl⟩
  have hp := Int.emod_nonneg at_ (by omega : ((8 * b.size : Nat) : Int) ≠ 0)
  have hq := Int.emod_lt_of_pos at_ (by omega : (0 : Int) < ((8 * b.size : Nat) : Int))
  have hk1 : at_ % (8 * (b.size : Int)) = k := by
    rw [hk, show (8 * (b.size : Int)) = ((8 * b.size : Nat) : Int) by omega]; exact (Int.toNat_of_nonneg hp).symm
  have hk2 : k < 8 * b.size := by omega
  rw [hk1]
  clear hp hq hk1 hk
  rintro e w1 ⟨rfl, rfl⟩
  go_wp2_with fail
  refine gen_world (fun w' => Below w.heap.size w w' ∧ Row w' w.heap.size (.slice (some ⟨w.heap.size, 0, none⟩) b.size (grownCap w b.size 0 5)) b.data.toList ∧ Row w' w.heap.size (.slice (some ⟨w.heap.size + 1, 0, none⟩) b.size (grownCap (Lib.bytesWorld w 5 b) b.size 0 5)) b.data.toList)
    ⟨((bytes_keep w b).trans (bytes_keep _ b)).toBelow, row_keep (bytes_row w b (by omega)) (bytes_keep _ b) (by simp), ?_⟩ ?_
  · have := bytes_row (Lib.bytesWorld w 5 b) b (by omega)
    rw [bytes_size] at this
    exact row_mono this (by omega)
  generalize grownCap (Lib.bytesWorld w 5 b) b.size 0 5 = cap2
  generalize grownCap w b.size 0 5 = cap1
  obtain ⟨g2, hg2⟩ : ∃ g, g = w.heap.size + 1 := ⟨_, rfl⟩
  obtain ⟨g1, hg1⟩ : ∃ g, g = w.heap.size := ⟨_, rfl⟩
  have hne : ¬ g1 = g2 := by omega
  have hne2 : ¬ g2 = g1 := by omega
  have hgl1 : w.heap.size ≤ g1 := by omega
  have hgl2 : w.heap.size ≤ g2 := by omega
  rw [← hg2]
  rw [show (Value.slice (some ⟨w.heap.size, 0, none⟩) b.size cap1) = .slice (some ⟨g1, 0, none⟩) b.size cap1 by rw [hg1]]
  have HG1 := Lib.hid hg1; have HG2 := Lib.hid hg2; clear hg1 hg2
  rintro w1 ⟨hL1, hR1, hR2⟩
  have HL1 := Lib.hid hL1; have HR1 := Lib.hid hR1; have HR2 := Lib.hid hR2; clear hL1 hR1 hR2
  go_loopw [10] (fun i wr => ∃ (j : Nat) (S L : List UInt8), j ≤ 32 ∧ i = .int .i64 j ∧ S.length = b.size ∧ L.length = b.size ∧ Row wr w.heap.size (.slice (some ⟨g1, 0, none⟩) b.size cap1) S ∧ Row wr w.heap.size (.slice (some ⟨g2, 0, none⟩) b.size cap2) L ∧ (∀ p, ¬(k ≤ p ∧ p < k + 16) → bitH S p = bitH b.data.toList p) ∧ (∀ p, ¬(k ≤ p ∧ p < k + 32) → bitL L p = bitL b.data.toList p) ∧ Below w.heap.size w wr) (fun i _ => (32 - intOf i).toNat)
  case atStart => exact ⟨0, _, _, by omega, rfl, by simp, by simp, HR1.out, HR2.out, fun _ _ => rfl, fun _ _ => rfl, HL1.out⟩
  case round =>
    clear HR1 HR2 HL1
    obtain ⟨j, S, L, hj, rfl, hSl, hLl, hR1, hR2, hbS, hbL, hL⟩ := hrel
    have hj0 : (0 : Int) ≤ (j : Int) := by omega
    by_cases hin : j < 32 ∧ k + j < 8 * b.size
    · obtain ⟨hin1, hin2⟩ := hin
      have hj32 : decide ((j : Int) < 32) = true := by simp; omega
      obtain ⟨p, hp⟩ : ∃ p, p = k + j := ⟨_, rfl⟩
      have q0 : (k : Int) + (j : Int) = (p : Int) := by omega
      have hp2 : p < 8 * b.size := by omega
      have hpb : decide ((p : Int) < 8 * (b.size : Int)) = true := by simp; omega
      obtain ⟨hb1, hb2⟩ := bitm32_is ch j
      by_cases hb : ch.getLsbD j = true
      · rw [hb] at hb1 hb2
        obtain ⟨d, hd⟩ : ∃ d, d = p / 8 := ⟨_, rfl⟩
        obtain ⟨r, hr⟩ : ∃ r, r = p % 8 := ⟨_, rfl⟩
        obtain ⟨t, ht⟩ : ∃ t, t = 7 - r := ⟨_, rfl⟩
        have hd2 : d < b.size := by omega
        have ht2 : t ≤ 7 := by omega
        have hr2 : r ≤ 7 := by omega
        have q1 : IntKind.i64.wrap ((p : Int) / 8) = (d : Int) := by rw [IntWalk.i64_in _ (by omega)]; omega
        have q1b : (p : Int) / 8 = (d : Int) := by omega
        have q2 : ((p : Int).tmod 8) = (r : Int) := by
          rw [Int.tmod_eq_emod_of_nonneg (by omega)]; omega
        have q3 : IntKind.i64.wrap (7 - (r : Int)) = (t : Int) := by rw [IntWalk.i64_in _ (by omega)]; omega
        have q3b : 7 - (r : Int) = (t : Int) := by omega
        have hd3 : (d : Int) < (b.size : Int) := by omega
        have hd4 : (0 : Int) ≤ (d : Int) := by omega
        have ht4 : (0 : Int) ≤ (t : Int) := by omega
        have ht5 : (t : Int) ≤ 7 := by omega
        have hr4 : (0 : Int) ≤ (r : Int) := by omega
        have hr5 : (r : Int) ≤ 7 := by omega
        obtain ⟨c, hc⟩ : ∃ c, c = S.getD d 0 := ⟨_, rfl⟩
        obtain ⟨x, hx⟩ : ∃ x, x = L.getD d 0 := ⟨_, rfl⟩
        have c0 : wr.cell? ⟨g1, d, none⟩ = some (.int .u8 (c.toNat : Int)) := by
          rw [row_byte hR1 d (by omega), hc, List.getD_eq_getElem?_getD, List.getElem?_eq_getElem (by omega)]; rfl
        have f0 : wr.frozen? ⟨g1, d, none⟩ = false := row_free hR1 rfl _ (by omega)
        have c1 : wr.cell? ⟨g2, d, none⟩ = some (.int .u8 (x.toNat : Int)) := by
          rw [row_byte hR2 d (by omega), hx, List.getD_eq_getElem?_getD, List.getElem?_eq_getElem (by omega)]; rfl
        have f1 : wr.frozen? ⟨g2, d, none⟩ = false := row_free hR2 rfl _ (by omega)
        obtain ⟨c', hc'⟩ : ∃ c', c' = c ^^^ ((1 : UInt8) <<< UInt8.ofNat t) := ⟨_, rfl⟩
        obtain ⟨x', hx'⟩ : ∃ x', x' = x ^^^ ((1 : UInt8) <<< UInt8.ofNat r) := ⟨_, rfl⟩
        have q4 : bits .xor .u8 (c.toNat : Int) (2 ^ t % 256) = (c'.toNat : Int) := by rw [hc']; exact xor_bit c t ht2
        have q5 : bits .xor .u8 (c.toNat : Int) (IntKind.u8.wrap (2 ^ t)) = (c'.toNat : Int) := by rw [IntKind.wrap_u8']; exact q4
        have q6 : bits .xor .u8 (x.toNat : Int) (2 ^ r % 256) = (x'.toNat : Int) := by rw [hx']; exact xor_bit x r hr2
        have q7 : bits .xor .u8 (x.toNat : Int) (IntKind.u8.wrap (2 ^ r)) = (x'.toNat : Int) := by rw [IntKind.wrap_u8']; exact q6
        have hS2 : S.set d c' = flipAt S p := by rw [hc', hc, ht, hr, hd]; rfl
        have hL2 : L.set d x' = flipL L p := by rw [hx', hx, hr, hd]; rfl
        have hT1 := row_set hR2 d x'
        have HS2 := Lib.hid hS2; have HL2 := Lib.hid hL2
        by_cases h16 : j < 16
        · have hj16 : decide ((j : Int) < 16) = true := by simp; omega
          have HU1 := Lib.hid (row_keep (row_set hR1 d c') ((Keep.refl [g2] _).setCell (p := ⟨g2, d, none⟩) (.inl (by simp)) (vb x')) (by intro g hg; injection hg with hg; subst hg; simp; exact hne))
          have HU2 := Lib.hid (row_set (row_keep hR2 ((Keep.refl [g1] _).setCell (p := ⟨g1, d, none⟩) (.inl (by simp)) (vb c')) (by intro g hg; injection hg with hg; subst hg; simp; exact hne2)) d x')
          have HL := Lib.hid hL; have HBS := Lib.hid hbS; have HBL := Lib.hid hbL; have HP := Lib.hid hp
          clear hL hbS hbL hp hR1 hR2 hT1 hS2 hL2 hc hx hc' hx' hd hr ht hb
          go_wp2_with fail
          go_roundw
          case rel =>
            refine ⟨j + 1, S.set d c', L.set d x', by omega, by go_num, by simpa using hSl, by simpa using hLl, HU1.out, HU2.out, fun p' hp' => ?_, fun p' hp' => ?_, (HL.out.setCell hgl1 _).setCell hgl2 _⟩
            · rw [HS2.out, flipAt_bit _ _ _ (by have := HP.out; omega)]; exact HBS.out p' hp'
            · rw [HL2.out, flipL_bit _ _ _ (by have := HP.out; omega)]; exact HBL.out p' hp'
          case measure => simp [intOf]; omega
        · have hj16 : decide ((j : Int) < 16) = false := by simp; omega
          have HU1 := Lib.hid (row_keep hR1 ((Keep.refl [g2] _).setCell (p := ⟨g2, d, none⟩) (.inl (by simp)) (vb x')) (by intro g hg; injection hg with hg; subst hg; simp; exact hne))
          have HU2 := Lib.hid hT1
          have HL := Lib.hid hL; have HBS := Lib.hid hbS; have HBL := Lib.hid hbL; have HP := Lib.hid hp
          clear hL hbS hbL hp hR1 hR2 hT1 hS2 hL2 hc hx hc' hx' hd hr ht hb
          go_wp2_with fail
          go_roundw
          case rel =>
            refine ⟨j + 1, S, L.set d x', by omega, by go_num, hSl, by simpa using hLl, HU1.out, HU2.out, HBS.out, fun p' hp' => ?_, HL.out.setCell hgl2 _⟩
            rw [HL2.out, flipL_bit _ _ _ (by have := HP.out; omega)]; exact HBL.out p' hp'
          case measure => simp [intOf]; omega
      · have hb' : ch.getLsbD j = false := by simpa using hb
        rw [hb'] at hb1 hb2
        have HR1 := Lib.hid hR1; have HR2 := Lib.hid hR2; have HL := Lib.hid hL; have HBS := Lib.hid hbS; have HBL := Lib.hid hbL
        clear hL hbS hbL hp hR1 hR2 hb hb'
        by_cases h16 : j < 16
        all_goals
          first | have hj16 : decide ((j : Int) < 16) = true := by simp; omega
                | have hj16 : decide ((j : Int) < 16) = false := by simp; omega
          go_wp2_with fail
          go_roundw
          case rel => exact ⟨j + 1, S, L, by omega, by go_num, hSl, hLl, HR1.out, HR2.out, HBS.out, HBL.out, HL.out⟩
          case measure => simp [intOf]; omega
    · have hx1 : S = b.data.toList ∨ ¬ sum16 S = sum16 b.data.toList := by
        by_cases h : sum16 S = sum16 b.data.toList
        · exact .inl (burst16 _ _ (by simpa using hSl) k hbS _ h)
        · exact .inr h
      have hx2 : L = b.data.toList ∨ ¬ sum32 L = sum32 b.data.toList := by
        by_cases h : sum32 L = sum32 b.data.toList
        · exact .inl (burst32 _ _ (by simpa using hLl) k hbL _ h)
        · exact .inr h
      have hout : (decide ((j : Int) < 32) = false) ∨ (decide ((j : Int) < 32) = true ∧ decide ((k : Int) + (j : Int) < 8 * (b.size : Int)) = false) := by
        by_cases h : j < 32
        · exact .inr ⟨by simp; omega, by simp; omega⟩
        · exact .inl (by simp; omega)
      have hcS := run_string hR1
      have hcL := run_string hR2
      have HR2 := Lib.hid hR2
      have HL0 := Lib.hid hL
      clear hbS hbL hL hR1 hR2 hin
      rcases hout with hj32 | ⟨hj32, hkj⟩
      all_goals
        rcases hx1 with hSe | hSn
        · rw [hSe, mk_data] at hcS
          clear hSe
          rcases hx2 with hLe | hLn
          · rw [hLe, mk_data] at hcL
            clear hLe
            go_wp2_with fail
            refine (awake_any _).mono ?_
            rintro e w1 ⟨rfl, hL⟩
            have HL1 := Lib.hid (HL0.out.trans (hL.mono HL0.out.size)); clear hL
            go_wp2_with fail
            go_ret
            exact ⟨rfl, HL1.out⟩
          · obtain ⟨sL, hsL⟩ : ∃ s : ByteArray, s = ⟨L.toArray⟩ := ⟨_, rfl⟩
            have hll : sL.data.toList = L := by rw [hsL]
            have hsl : sL.size ≤ 1000000000 := by rw [← ByteArray.size_data, ← Array.length_toList, hll]; omega
            have hne4 : (sL.toList == b.toList) = false := by
              rw [toList_data, toList_data, hll, beq_eq_false_iff_ne]; intro e; exact hLn (by rw [e])
            obtain ⟨u, hu⟩ : ∃ u, u = sum32 sL.data.toList := ⟨_, rfl⟩
            obtain ⟨v, hv⟩ : ∃ v, v = sum32 b.data.toList := ⟨_, rfl⟩
            have huv : (w32 u == w32 v) = false := by
              rw [beq_eq_false_iff_ne]; intro e
              refine hLn ?_
              rw [← hll, ← hu, ← hv]
              exact BitVec.eq_of_toNat_eq (by unfold w32 at e; omega)
            have huv2 : (w32 u != w32 v) = true := by rw [bne, huv]; rfl
            have HSL := Lib.hid hu.symm; have HV := Lib.hid hv; have HLL := Lib.hid hsL.symm
            rw [HLL.out] at hcL
            clear hll hsL hLn hu hv
            go_wp2_with fail
            refine (Sum32_any sL _ hsl).mono ?_
            rw [HSL.out]
            rintro e w1 ⟨rfl, hL⟩
            have HL1 := Lib.hid (HL0.out.trans (hL.mono HL0.out.size)); clear hL
            go_wp2_with fail
            refine (Sum32_any b _ (by omega)).mono ?_
            rw [← HV.out]
            rintro e w2 ⟨rfl, hL⟩
            have HL2 := Lib.hid (HL1.out.trans (hL.mono HL1.out.size)); clear hL
            go_wp2_with fail
            refine (awake_any _).mono ?_
            rintro e w3 ⟨rfl, hL⟩
            have HL3 := Lib.hid (HL2.out.trans (hL.mono HL2.out.size)); clear hL
            go_wp2_with fail
            go_ret
            exact ⟨rfl, HL3.out⟩
        · obtain ⟨sS, hsS⟩ : ∃ s : ByteArray, s = ⟨S.toArray⟩ := ⟨_, rfl⟩
          have hss : sS.data.toList = S := by rw [hsS]
          have hsz : sS.size ≤ 1000000000 := by rw [← ByteArray.size_data, ← Array.length_toList, hss]; omega
          have hne3 : (sS.toList == b.toList) = false := by
            rw [toList_data, toList_data, hss, beq_eq_false_iff_ne]; intro e; exact hSn (by rw [e])
          have hne3b : (sS.toList != b.toList) = true := by rw [bne, hne3]; rfl
          rw [← hsS] at hcS
          obtain ⟨x, hx⟩ : ∃ x, x = sum16 sS.data.toList := ⟨_, rfl⟩
          obtain ⟨y, hy⟩ : ∃ y, y = sum16 b.data.toList := ⟨_, rfl⟩
          have hxy : (w16 x == w16 y) = false := by
            rw [beq_eq_false_iff_ne]; intro e
            refine hSn ?_
            rw [← hss, ← hx, ← hy]
            exact BitVec.eq_of_toNat_eq (by unfold w16 at e; omega)
          have HSS := Lib.hid hx.symm; have HY := Lib.hid hy
          clear hss hsS hSn hx hy
          rcases hx2 with hLe | hLn
          · clear hcL
            have HLe := Lib.hid hLe; clear hLe
            go_wp2_with fail
            refine (Sum16_any sS _ hsz).mono ?_
            rw [HSS.out]
            rintro e w1 ⟨rfl, hL⟩
            have HT2 := Lib.hid (row_below HR2.out hL (Nat.le_refl _))
            have HL1 := Lib.hid (HL0.out.trans (hL.mono HL0.out.size)); clear hL
            go_wp2_with fail
            refine (Sum16_any b _ (by omega)).mono ?_
            rw [← HY.out]
            rintro e w2 ⟨rfl, hL⟩
            have hcL := run_string (row_below HT2.out hL (Nat.le_refl _))
            have HL2 := Lib.hid (HL1.out.trans (hL.mono HL1.out.size)); clear hL
            rw [HLe.out, mk_data] at hcL
            go_wp2_with fail
            refine (awake_any _).mono ?_
            rintro e w3 ⟨rfl, hL⟩
            have HL3 := Lib.hid (HL2.out.trans (hL.mono HL2.out.size)); clear hL
            go_wp2_with fail
            go_ret
            exact ⟨rfl, HL3.out⟩
          · obtain ⟨sL, hsL⟩ : ∃ s : ByteArray, s = ⟨L.toArray⟩ := ⟨_, rfl⟩
            have hll : sL.data.toList = L := by rw [hsL]
            have hsl : sL.size ≤ 1000000000 := by rw [← ByteArray.size_data, ← Array.length_toList, hll]; omega
            have hne4 : (sL.toList == b.toList) = false := by
              rw [toList_data, toList_data, hll, beq_eq_false_iff_ne]; intro e; exact hLn (by rw [e])
            obtain ⟨u, hu⟩ : ∃ u, u = sum32 sL.data.toList := ⟨_, rfl⟩
            obtain ⟨v, hv⟩ : ∃ v, v = sum32 b.data.toList := ⟨_, rfl⟩
            have huv : (w32 u == w32 v) = false := by
              rw [beq_eq_false_iff_ne]; intro e
              refine hLn ?_
              rw [← hll, ← hu, ← hv]
              exact BitVec.eq_of_toNat_eq (by unfold w32 at e; omega)
            have huv2 : (w32 u != w32 v) = true := by rw [bne, huv]; rfl
            have HSL := Lib.hid hu.symm; have HV := Lib.hid hv; have HLL := Lib.hid hsL.symm
            clear hcL
            clear hll hsL hLn hu hv
            go_wp2_with fail
            refine (Sum16_any sS _ hsz).mono ?_
            rw [HSS.out]
            rintro e w1 ⟨rfl, hL⟩
            have HT2 := Lib.hid (row_below HR2.out hL (Nat.le_refl _))
            have HL1 := Lib.hid (HL0.out.trans (hL.mono HL0.out.size)); clear hL
            go_wp2_with fail
            refine (Sum16_any b _ (by omega)).mono ?_
            rw [← HY.out]
            rintro e w2 ⟨rfl, hL⟩
            have hcL := run_string (row_below HT2.out hL (Nat.le_refl _))
            have HL2 := Lib.hid (HL1.out.trans (hL.mono HL1.out.size)); clear hL
            rw [HLL.out] at hcL
            go_wp2_with fail
            refine (Sum32_any sL _ hsl).mono ?_
            rw [HSL.out]
            rintro e w3 ⟨rfl, hL⟩
            have HL3 := Lib.hid (HL2.out.trans (hL.mono HL2.out.size)); clear hL
            go_wp2_with fail
            refine (Sum32_any b _ (by omega)).mono ?_
            rw [← HV.out]
            rintro e w4 ⟨rfl, hL⟩
            have HL4 := Lib.hid (HL3.out.trans (hL.mono HL3.out.size)); clear hL
            go_wp2_with fail
            refine (awake_any _).mono ?_
            rintro e w5 ⟨rfl, hL⟩
            have HL5 := Lib.hid (HL4.out.trans (hL.mono HL4.out.size)); clear hL
            go_wp2_with fail
            go_ret
            exact ⟨rfl, HL5.out⟩
theorem bursts_walk2 (b : ByteArray) (at_ c : Int) (h3 : -9223372036854775808 ≤ at_) (h4 : at_ ≤ 9223372036854775807) (h5 : 0 ≤ c) (h6 : c ≤ 4294967295) (w : World) : Calls Try.prog 6 #[.string b, .int .i64 at_, .int .u32 c] w fun e w' => e = .returned (.bool true) ∧ Below w.heap.size w w' := by
  obtain ⟨x, rfl⟩ := w32_of c h5 h6
  exact bursts_walk b at_ x h3 h4 w
end Go.Proofs.Ytdahabokhmgplaa
