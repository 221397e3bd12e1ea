/- What is proved here: the walk of the law about frames with inverted bits. -/
import Derived.Test.YtebgehmgjafblaaH12
import Derived.Test.YtebgehmgjafblaaP12f
import Derived.Test.YtebgehmgjafblaaG5
import Derived.Deep.LoopGhost
set_option linter.unusedVariables false
set_option linter.unusedSimpArgs false
namespace Go.Proofs.Ytebgehmgjafblaa
open Go.RowKit
theorem flipOf_at (L : List UInt8) (n : Int) (k : Nat) (hn : n = k) (hk : k < 8 * L.length) : flipOf L n = flipAt L k := by
  unfold flipOf
  rw [if_neg (by intro e; rw [e] at hk; simp at hk), hn]
  congr 1
  rw [← Int.natCast_emod, Int.toNat_natCast]
  exact Nat.mod_eq_of_lt hk
set_option maxHeartbeats 8000000 in
set_option maxRecDepth 100000 in
theorem TcframeFlips_any (f : Tc) (at_ b : Int) (w : World) (ha1 : -9223372036854775808 ≤ at_) (ha2 : at_ ≤ 9223372036854775807) (hb1 : 0 ≤ b) (hb2 : b ≤ 65535) : Calls Try.prog 12 #[f.val, .int .i64 at_, .int .u16 b] w fun e w' => e = .returned (.bool true) ∧ Below w.heap.size w w' := by
  have hpf := Put_any f
  unfold Tc.putV at hpf
  obtain ⟨B, rfl⟩ : ∃ B : Nat, b = B := ⟨b.toNat, by omega⟩
  have hB : B < 65536 := by omega
  have hlen : f.good = true → f.enc.length = f.data.size + 7 ∧ 1 ≤ f.data.size ∧ f.data.size ≤ 200 := by
    intro h
    obtain ⟨_, _, e3, _, _⟩ := enc_nat2 f h
    obtain ⟨_, _, _, _, _, _, h4, h5, _, _⟩ := f.good_nat h
    exact ⟨e3, h4, h5⟩
  have hgf := fun k0 hg h0 hk w => (get_flips f k0 B hg h0 hB hk) ▸ Get_any ⟨(flips f.enc k0 B 16).toArray⟩ w
  obtain ⟨L, hL⟩ : ∃ L, L = f.enc := ⟨_, rfl⟩
  rw [← hL] at hpf hlen hgf
  obtain ⟨gd, hgd⟩ : ∃ gd, gd = f.good := ⟨_, rfl⟩
  rw [← hgd] at hpf hlen hgf
  obtain ⟨fc, fch, fb, fk, fs, fd⟩ := f
  dsimp only [Tc.val, strOf] at hpf hlen ⊢
  have HPF := Lib.hid hpf; have HLEN := Lib.hid hlen; have HGF := Lib.hid hgf
  clear hpf hlen hgf hL hgd
  have HX0 := Lib.hid (Blk.new w [.int .i64 fc, .int .i64 fch, .bool fb, .bool fk, .int .i64 fs, .string fd] 30)
  have HL0 := Lib.hid ((Below.refl w.heap.size w).alloc (Nat.le_refl _) (Obj.cells #[.int .i64 fc, .int .i64 fch, .bool fb, .bool fk, .int .i64 fs, .string fd] 30))
  cases gd
  · go_enter Try.func12, Try.ntmps12
    go_wp2_with fail
    refine (shown12_any _).mono ?_
    rintro e w1 ⟨rfl, hL1⟩
    have HX1 := Lib.hid (HX0.out.below hL1 HX0.out.lt)
    have HL1 := Lib.hid (HL0.out.trans (hL1.mono HL0.out.size)); clear hL1 HL0 HX0
    have x0 := HX1.out.cell 0
    have x1 := HX1.out.cell 1
    have x2 := HX1.out.cell 2
    have x3 := HX1.out.cell 3
    have x4 := HX1.out.cell 4
    have x5 := HX1.out.cell 5
    simp only [List.getElem?_cons_zero, List.getElem?_cons_succ] at x0 x1 x2 x3 x4 x5
    go_wp2_with fail
    refine (HPF.out _).mono ?_
    rintro e w2 ⟨rfl, hL2⟩
    have HL2 := Lib.hid (HL1.out.trans (hL2.mono HL1.out.size)); clear hL2 HL1 HX1 x0 x1 x2 x3 x4 x5
    go_wp2_with fail
    go_ret
    exact ⟨rfl, HL2.out⟩
  · obtain ⟨l1, l2, l3⟩ := HLEN.out rfl
    have HPF := Lib.hid (show ∀ w, Calls Try.prog 29 #[.agg #[.int .i64 fc, .int .i64 fch, .bool fb, .bool fk, .int .i64 fs, .string fd]] w fun e w' => e = .returned (.tuple #[.string ⟨L.toArray⟩, .int .i64 0]) ∧ Below w.heap.size w w' from HPF.out)
    have le1 : 8 ≤ L.length := by omega
    have le2 : L.length ≤ 207 := by omega
    clear l1 l2 l3
    by_cases h0 : B = 0
    · have k0 : ((B : Int) == 0) = true := by simp [h0]
      clear h0
      go_enter Try.func12, Try.ntmps12
      go_wp2_with fail
      refine (shown12_any _).mono ?_
      rintro e w1 ⟨rfl, hL1⟩
      have HX1 := Lib.hid (HX0.out.below hL1 HX0.out.lt)
      have HL1 := Lib.hid (HL0.out.trans (hL1.mono HL0.out.size)); clear hL1 HL0 HX0
      have x0 := HX1.out.cell 0
      have x1 := HX1.out.cell 1
      have x2 := HX1.out.cell 2
      have x3 := HX1.out.cell 3
      have x4 := HX1.out.cell 4
      have x5 := HX1.out.cell 5
      simp only [List.getElem?_cons_zero, List.getElem?_cons_succ] at x0 x1 x2 x3 x4 x5
      go_wp2_with fail
      refine (HPF.out _).mono ?_
      rintro e w2 ⟨rfl, hL2⟩
      have HL2 := Lib.hid (HL1.out.trans (hL2.mono HL1.out.size)); clear hL2 HL1 HX1 x0 x1 x2 x3 x4 x5
      go_wp2_with fail
      go_ret
      exact ⟨rfl, HL2.out⟩
    · have k0 : ((B : Int) == 0) = false := by simp; omega
      have k8 : ¬ (L.length : Int) < 8 := by omega
      have hm1 : IntKind.i64.wrap (8 * (L.length : Int)) = 8 * (L.length : Int) := IntWalk.i64_in _ (by omega)
      have hm2 : IntKind.i64.wrap (8 * (L.length : Int) - 15) = 8 * (L.length : Int) - 15 := IntWalk.i64_in _ (by omega)
      have HB0 := Lib.hid h0
      clear h0
      go_enter Try.func12, Try.ntmps12
      go_wp2_with fail
      refine (shown12_any _).mono ?_
      rintro e w1 ⟨rfl, hL1⟩
      have HX1 := Lib.hid (HX0.out.below hL1 HX0.out.lt)
      have HL1 := Lib.hid (HL0.out.trans (hL1.mono HL0.out.size)); clear hL1 HL0 HX0
      have x0 := HX1.out.cell 0
      have x1 := HX1.out.cell 1
      have x2 := HX1.out.cell 2
      have x3 := HX1.out.cell 3
      have x4 := HX1.out.cell 4
      have x5 := HX1.out.cell 5
      simp only [List.getElem?_cons_zero, List.getElem?_cons_succ] at x0 x1 x2 x3 x4 x5
      go_wp2_with fail
      refine (HPF.out _).mono ?_
      rintro e w2 ⟨rfl, hL2⟩
      have HL2 := Lib.hid (HL1.out.trans (hL2.mono HL1.out.size)); clear hL2 HL1 HX1 x0 x1 x2 x3 x4 x5
      go_wp2_with fail
      refine (pick_any at_ (8 * (L.length : Int) - 15) _ (by omega) (by omega) ha1 ha2).mono ?_
      obtain ⟨q, hq⟩ : ∃ q : Nat, at_ % (8 * (L.length : Int) - 15) = q := ⟨(at_ % (8 * (L.length : Int) - 15)).toNat, (Int.toNat_of_nonneg (Int.emod_nonneg _ (by omega))).symm⟩
      have hq2 : q + 16 ≤ 8 * L.length := by
        have := Int.emod_lt_of_pos at_ (show (0 : Int) < 8 * (L.length : Int) - 15 by omega)
        omega
      rw [hq]
      rintro e w3 ⟨rfl, rfl⟩
      have hgf := HGF.out q (by simp) HB0.out hq2
      dsimp only [getBad, Tc.val, Tc.zero] at hgf
      have HGF := Lib.hid hgf; clear hgf
      have HQ := Lib.hid hq
      clear hq hm1 hm2
      go_wp2_with fail
      go_loopg [10, 11] 16 (fun m s i wr => ∃ k : Nat, k ≤ 16 ∧ m = 16 - k ∧ i = .int .i64 k ∧ s = .string ⟨(flips L q B k).toArray⟩ ∧ Below w.heap.size w wr)
      case atStart => exact ⟨0, by omega, by omega, rfl, rfl, HL2.out⟩
      case round =>
        obtain ⟨k, hk, hm, rfl, rfl, hL⟩ := hrel
        have HL := Lib.hid hL; clear hL HL2
        by_cases hlt : k < 16
        · obtain ⟨s, hs⟩ : ∃ s : ByteArray, s = ⟨(flips L q B k).toArray⟩ := ⟨_, rfl⟩
          have hsl : s.data.toList = flips L q B k := by rw [hs]
          have hsz : s.size = L.length := by rw [hs]; show (flips L q B k).toArray.size = _; rw [List.size_toArray, flips_len]
          rw [← hs]
          have HS := Lib.hid hs; have HSL := Lib.hid hsl
          clear hs hsl
          have e2 : (2 : Int) ^ k = ((2 ^ k : Nat) : Int) := by simp
          have e : ((B : Int) / 2 ^ k).tmod 2 = ((B / 2 ^ k % 2 : Nat) : Int) := by
            rw [e2, ← Int.natCast_ediv, Int.tmod_eq_emod_of_nonneg (Int.natCast_nonneg (B / 2 ^ k))]
            exact (Int.natCast_emod (B / 2 ^ k) 2).symm
          have hqk : (q : Int) + k = ((q + k : Nat) : Int) := by omega
          by_cases hbit : B / 2 ^ k % 2 = 1
          · have hbt : (((B : Int) / 2 ^ k).tmod 2 == 1) = true := by rw [e, hbit]; rfl
            have hfl := fun w => flip_any s ((q : Int) + k) w (by omega) (by omega) (by omega)
            rw [HSL.out, flipOf_at (flips L q B k) ((q : Int) + k) (q + k) hqk (by rw [flips_len]; omega)] at hfl
            have hst : flipAt (flips L q B k) (q + k) = flips L q B (k + 1) := by
              show _ = if B / 2 ^ k % 2 = 1 then _ else _
              rw [if_pos hbit]
            rw [hst] at hfl
            dsimp only [strOf] at hfl
            have HFL := Lib.hid hfl
            clear hfl hst hbit e e2 hqk
            go_wp2_with fail
            refine (HFL.out _).mono ?_
            rintro e w5 ⟨rfl, hL5⟩
            have HL5 := Lib.hid (HL.out.trans (hL5.mono HL.out.size)); clear hL5
            go_wp2_with fail
            go_roundg (16 - (k + 1))
            case measure => omega
            case rel => exact ⟨k + 1, by omega, rfl, by go_num, rfl, HL5.out⟩
          · have hbt : (((B : Int) / 2 ^ k).tmod 2 == 1) = false := by
              rw [e, beq_eq_false_iff_ne]
              have h2 : ∀ z : Nat, (z : Int) = 1 → z = 1 := by omega
              exact fun h => hbit (h2 _ h)
            have hst : s = ⟨(flips L q B (k + 1)).toArray⟩ := by
              rw [HS.out]
              show _ = (⟨(if B / 2 ^ k % 2 = 1 then _ else _ : List UInt8).toArray⟩ : ByteArray)
              rw [if_neg hbit]
            have HST := Lib.hid hst
            clear hst hbit e e2 hqk
            go_wp2_with fail
            go_roundg (16 - (k + 1))
            case measure => omega
            case rel => exact ⟨k + 1, by omega, rfl, by go_num, by rw [HST.out], HL.out⟩
        · obtain rfl : k = 16 := by omega
          go_wp2_with fail
          refine (HGF.out _).mono ?_
          rintro e w5 ⟨rfl, hL5⟩
          have HL5 := Lib.hid (HL.out.trans (hL5.mono HL.out.size)); clear hL5
          go_wp2_with fail
          go_ret
          exact ⟨rfl, HL5.out.alloc HL5.out.size _⟩
end Go.Proofs.Ytebgehmgjafblaa
