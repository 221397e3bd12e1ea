/- What is proved here: a part of the proof of TopLink (texts Fi11 Fi12 Fi13 Pk1 Pk2). No condition. -/
import Derived.Deep.RegionWith
import Derived.Deep.RegionHeld3
import Derived.Test.YtgopighmifpefaaGreatDoorPart11
import Derived.Test.YtgopighmifpefaaGreatDoorPart17
set_option linter.unusedVariables false
set_option linter.unusedSimpArgs false
namespace Go.Proofs.YtgopighmifpefaaGreatDoor
section
open Go.RowKit
open Fb (pc)
theorem crc_far : ∀ C : Nat, C < 3 → ∀ lh : Nat, lh < 2 → 2 ≤ pc (128 ^^^ ((sum16 [0, 1, 0, 8, UInt8.ofNat (192 + C), 128, UInt8.ofNat lh]).toNat / 256)) + pc (129 ^^^ ((sum16 [0, 1, 0, 8, UInt8.ofNat (192 + C), 128, UInt8.ofNat lh]).toNat % 256)) := by decide +kernel
theorem ch_far : ∀ C : Nat, C < 3 → ∀ L : Nat, L < 207 → 8 ≤ L → pc ((192 + C) ^^^ L) ≤ 2 → 64 ≤ L := by decide +kernel
theorem pc_pos : ∀ v : Nat, v < 256 → v ≠ 0 → 1 ≤ pc v := by decide +kernel
theorem lh_ff : ∀ h : Nat, h < 2 → h ≤ pc (h ^^^ 0) ∧ h ≤ pc (h ^^^ 128) := by decide
section
variable {SQ F C cl lh ll m : Nat} {c1 c2' : UInt8} {o M LL SS FF D : Nat} {q : List Nat}
abbrev fe (SQ F C cl lh ll m : Nat) (c1 c2' : UInt8) : List UInt8 := foE SQ (64 + 128 * F) (192 + C) cl lh ll m c1 c2'
theorem fo_par1 (hcl : cl < 256) (hlh : lh < 256) (hll : ll < 256) (hC : C < 3) (hm : 2 ≤ m) : ub (fe SQ F C cl lh ll m c1 c2') 17 = Fb.parA [0, 192 + C, cl, lh, ll, cl, (cl + 1) % 256] := by
  have hl := foE_len SQ (64 + 128 * F) (192 + C) cl lh ll m c1 c2'
  refine par_exact _ 1 17 _ _ _ _ _ _ _ rfl (by unfold fe; omega) rfl ?_ ?_ ?_ ?_ ?_ ?_
  · show (UInt8.ofNat (192 + C)).toNat = _; simp; omega
  · show (UInt8.ofNat cl).toNat = _; simp; omega
  · show (UInt8.ofNat lh).toNat = _; simp; omega
  · show (UInt8.ofNat ll).toNat = _; simp; omega
  · unfold fe; rw [foE_get _ _ _ _ _ _ _ _ _ _ (by decide) (by omega)]; omega
  · unfold fe; rw [foE_get _ _ _ _ _ _ _ _ _ _ (by decide) (by omega)]
theorem fo_ll (hll : ll < 256) (h : 14 + 9 ≤ 8 * mN (fe SQ F C cl lh ll m c1 c2').length) : ub (fe SQ F C cl lh ll m c1 c2') 14 = ll := by
  obtain ⟨_, h2⟩ := known (fe SQ F C cl lh ll m c1 c2') 14 1 4 rfl (by decide) h
  rw [h2]
  show (UInt8.ofNat ll).toNat = ll
  simp; omega
theorem fo_case9 (hF : F = 0 ∨ F = 1) (hll : ll < 256) (h : Asked (fe SQ F 0 1 0 ll m c1 c2') 9 M LL SS FF D q) : False := by
  have hfit := h.fit; have hm2 := h.m2
  have hl := foE_len SQ (64 + 128 * F) (192 + 0) 1 0 ll m c1 c2'
  have hmm : 2 ≤ m := by unfold mN at hfit; unfold fe at hfit; omega
  have hU : ∀ i, ub (fe SQ F 0 1 0 ll m c1 c2') (9 + i) < 256 := fun i => ub_lt _ _
  have hm := match9 (o := 9) (n := 8) (fo_match SQ (64 + 128 * F) (192 + 0) 1 0 ll m c1 c2' (by omega) (by decide) (by decide) (by decide)) (by unfold fe at hfit; omega)
  have g0 := (hm 0 (by decide)).2 rfl
  have g1 := (hm 1 (by decide)).1 (show (0 : Nat) < 256 by decide)
  have g2 := (hm 2 (by decide)).1 (show (192 : Nat) + 0 < 256 by decide)
  have g3 := (hm 3 (by decide)).1 (show (1 : Nat) < 256 by decide)
  have g4 := (hm 4 (by decide)).1 (show (0 : Nat) < 256 by decide)
  have g6 := (hm 6 (by decide)).1 (show (1 : Nat) < 256 by decide)
  have g7 := (hm 7 (by decide)).1 (show (1 + 1) % 256 < 256 by decide)
  have g5 : ub (fe SQ F 0 1 0 ll m c1 c2') (9 + 5) = ll := fo_ll hll (by omega)
  have g8 : ub (fe SQ F 0 1 0 ll m c1 c2') (9 + 8) = Fb.parA [0, 192, 1, 0, ll, 1, 2] := fo_par1 (by decide) (by decide) hll (by decide) hmm
  by_cases hM : M = 2
  · obtain ⟨rfl, hL⟩ := h.low hM
    have hk := Fb.allB_spec (Fb.allB_spec (Fb.allB_spec (Fb.allB_spec (Fb.allB_spec Fb.fo_s F (by omega)) 0 (by decide)) 1 (by decide)) 0 (by decide)) 9 (by decide)
    simp only [Bool.or_eq_true, beq_iff_eq, decide_eq_true_eq] at hk
    have h3 := lbS_sound _ _ hU hm LL SS D h.pp.1 hL
    have := h.cost
    omega
  · have g9 : ub (fe SQ F 0 1 0 ll m c1 c2') (9 + 9) = 3 := by
      obtain ⟨_, h2⟩ := known (fe SQ F 0 1 0 ll m c1 c2') 18 2 0 rfl (by decide) (by omega)
      rw [show 9 + 9 = 18 from rfl, h2]
      unfold fe
      rw [foE_get _ _ _ _ _ _ _ _ _ _ (by decide) (by unfold mN at hfit; unfold fe at hfit; omega)]
    have hk := Fb.allB_spec Fb.fo9_ok ll hll
    have hu := cand_use 3 2 ll 1 2 _ 3 LL SS FF D (fun i => ub (fe SQ F 0 1 0 ll m c1 c2') (9 + i)) hU hk h.pp g5 g6 g7 g8 g9 (by
      show 2 ≤ pc (ub _ (9 + 2)) + pc (ub _ (9 + 3) ^^^ 1) + pc (ub _ (9 + 4))
      have e2 : ub (fe SQ F 0 1 0 ll m c1 c2') (9 + 2) = 192 := g2
      rw [e2]; have : pc 192 = 2 := by decide
      omega)
    have hs : 3 ≤ cS (fun i => ub (fe SQ F 0 1 0 ll m c1 c2') (9 + i)) := by
      unfold cS
      have e1 : ub (fe SQ F 0 1 0 ll m c1 c2') (9 + 1) = 0 := g1
      have h0 := even_pc _ (hU 0) 235 (by decide) g0
      show 3 ≤ pc (ub _ (9 + 0) ^^^ 235) + pc (ub _ (9 + 1) ^^^ 144)
      rw [e1]
      have : pc (0 ^^^ 144) = 2 := by decide
      omega
    have hcost := h.cost
    have hb : Fb.pCost (ub (fe SQ F 0 1 0 ll m c1 c2') (9 + 9)) LL SS FF D = Fb.pCost ((fun i => ub (fe SQ F 0 1 0 ll m c1 c2') (9 + i)) 9) LL SS FF D := rfl
    rw [hb] at hcost
    omega
theorem fo_case11 (hF : F = 0 ∨ F = 1) (hC : C = 1 ∨ C = 2) (hll : ll < 256) (h : Asked (fe SQ F C 128 0 ll m c1 c2') 11 M LL SS FF D q) : False := by
  have hfit := h.fit; have hm2 := h.m2
  have hl := foE_len SQ (64 + 128 * F) (192 + C) 128 0 ll m c1 c2'
  have hmm : 2 ≤ m := by unfold mN at hfit; unfold fe at hfit; omega
  have hU : ∀ i, ub (fe SQ F C 128 0 ll m c1 c2') (11 + i) < 256 := fun i => ub_lt _ _
  have hm := match9 (o := 11) (n := 8) (fo_match SQ (64 + 128 * F) (192 + C) 128 0 ll m c1 c2' (by omega) (by omega) (by decide) (by decide)) (by unfold fe at hfit; omega)
  by_cases hM : M = 2
  · obtain ⟨rfl, hL⟩ := h.low hM
    have hk := Fb.allB_spec (Fb.allB_spec (Fb.allB_spec (Fb.allB_spec (Fb.allB_spec Fb.fo_s F (by omega)) C (by omega)) 128 (by decide)) 0 (by decide)) 11 (by decide)
    simp only [Bool.or_eq_true, beq_iff_eq, decide_eq_true_eq] at hk
    have h3 := lbS_sound _ _ hU hm LL SS D h.pp.1 hL
    have := h.cost
    omega
  · have hm10 := match9 (o := 11) (n := 10) (fo_match SQ (64 + 128 * F) (192 + C) 128 0 ll m c1 c2' (by omega) (by omega) (by decide) (by decide)) (by unfold fe at hfit; omega)
    have k := fun i hi => (hm10 i hi).1
    have g0 := k 0 (by decide) (show 192 + C < 256 by omega)
    have g1 := k 1 (by decide) (show (128 : Nat) < 256 by decide)
    have g2 := k 2 (by decide) (show (0 : Nat) < 256 by decide)
    have g4 := k 4 (by decide) (show (128 : Nat) < 256 by decide)
    have g5 := k 5 (by decide) (show (128 + 1) % 256 < 256 by decide)
    have g7 := k 7 (by decide) (show (128 + 2) % 256 < 256 by decide)
    have g8 := k 8 (by decide) (show (128 + 2 + 1) % 256 < 256 by decide)
    have g9 := k 9 (by decide) (show (128 + 2 + 2) % 256 < 256 by decide)
    have g3 : ub (fe SQ F C 128 0 ll m c1 c2') (11 + 3) = ll := fo_ll hll (by omega)
    have g6 : ub (fe SQ F C 128 0 ll m c1 c2') (11 + 6) = Fb.parA [0, 192 + C, 128, 0, ll, 128, 129] := fo_par1 (by decide) (by decide) hll (by omega) hmm
    have hk := Fb.allB_spec (Fb.allB_spec Fb.fo11_ok (C - 1) (by omega)) ll hll
    simp only [Bool.or_eq_true, decide_eq_true_eq] at hk
    rw [show 193 + (C - 1) = 192 + C by omega] at hk
    have hs : pc ((192 + C) ^^^ 235) + pc (128 ^^^ 144) = cS (fun i => ub (fe SQ F C 128 0 ll m c1 c2') (11 + i)) := by
      unfold cS
      have e0 : ub (fe SQ F C 128 0 ll m c1 c2') (11 + 0) = 192 + C := g0
      have e1 : ub (fe SQ F C 128 0 ll m c1 c2') (11 + 1) = 128 := g1
      show _ = pc (ub _ (11 + 0) ^^^ 235) + pc (ub _ (11 + 1) ^^^ 144)
      rw [e0, e1]
    have e2 : ub (fe SQ F C 128 0 ll m c1 c2') (11 + 2) = 0 := g2
    have e4 : ub (fe SQ F C 128 0 ll m c1 c2') (11 + 4) = 128 := g4
    have hb0 : pc (ll ^^^ 1) + 1 ≤ pc (ub (fe SQ F C 128 0 ll m c1 c2') (11 + 2)) + pc (ub (fe SQ F C 128 0 ll m c1 c2') (11 + 3) ^^^ 1) + pc (ub (fe SQ F C 128 0 ll m c1 c2') (11 + 4)) := by
      rw [e2, e4, g3]
      have : pc 128 = 1 := by decide
      omega
    have hcost := h.cost
    have hb : Fb.pCost (ub (fe SQ F C 128 0 ll m c1 c2') (11 + 9)) LL SS FF D = Fb.pCost ((fun i => ub (fe SQ F C 128 0 ll m c1 c2') (11 + i)) 9) LL SS FF D := rfl
    rw [hb] at hcost
    rcases hk with hk | hk
    · have := cB_le (fun i => ub (fe SQ F C 128 0 ll m c1 c2') (11 + i)) LL SS FF D _ hb0
      omega
    · have hu := cand_use _ _ _ _ _ _ 132 LL SS FF D (fun i => ub (fe SQ F C 128 0 ll m c1 c2') (11 + i)) hU hk h.pp g5 g6 g7 g8 g9 hb0
      omega
end
end
section
open Go.RowKit
open Fb (pc)
theorem six : pc (16 ^^^ 1) = 2 ∧ pc 16 = 1 ∧ pc 0 = 0 := by decide
theorem pc_64 : ∀ F : Nat, F < 2 → 1 ≤ pc (64 + 128 * F) ∧ pc (64 + 128 * F) = 1 + F := by decide
theorem min2 : ∀ v : Nat, v < 256 → ∀ h : Nat, h ≤ 1 → min (pc v) (pc (v ^^^ 1)) ≤ pc (v ^^^ h) := by
  intro v _ h hh
  rcases (show h = 0 ∨ h = 1 by omega) with rfl | rfl
  · rw [Nat.xor_zero]; exact Nat.min_le_left _ _
  · exact Nat.min_le_right _ _
theorem pc_tri (a b c : Nat) (ha : a < 256) (hb : b < 256) (hc : c < 256) : pc (a ^^^ c) ≤ pc (a ^^^ b) + pc (c ^^^ b) := by
  have h := pc_add (a ^^^ b) (Nat.xor_lt_two_pow (n := 8) ha hb) (c ^^^ b) (Nat.xor_lt_two_pow (n := 8) hc hb)
  rwa [show (a ^^^ b) ^^^ (c ^^^ b) = a ^^^ c by rw [Nat.xor_comm c b, Nat.xor_assoc, ← Nat.xor_assoc b b, Nat.xor_self, Nat.zero_xor]] at h
section
variable {SQ F C cl lh ll m : Nat} {c1 c2' : UInt8} {o M LL SS FF D : Nat} {q : List Nat}
theorem fo_case5 (hF : F = 0 ∨ F = 1) (hSQ : SQ < 256) (hm1 : 1 ≤ m) (hm193 : m ≤ 193) (hm14 : F = 0 → 14 ≤ m) (hC : C < 3) (hcl : cl < 256) (hlh : lh < 2) (hll : ll < 256) (h : Asked (fe SQ F C cl lh ll m c1 c2') 5 M LL SS FF D q) : False := by
  have hfit := h.fit; have hm2 := h.m2
  have hl := foE_len SQ (64 + 128 * F) (192 + C) cl lh ll m c1 c2'
  obtain ⟨U, hUe⟩ : ∃ U : Nat → Nat, U = fun i => ub (fe SQ F C cl lh ll m c1 c2') (5 + i) := ⟨_, rfl⟩
  have hU : ∀ i, U i < 256 := fun i => by rw [hUe]; exact ub_lt _ _
  have hm := match9 (o := 5) (n := 10) (fo_match SQ (64 + 128 * F) (192 + C) cl lh ll m c1 c2' (by omega) (by omega) hcl (by omega)) (by unfold fe at hfit; omega)
  have k := fun i hi => (hm i hi).1
  have e0 : U 0 = m + 13 := by
    obtain ⟨_, h2⟩ := known (fe SQ F C cl lh ll m c1 c2') 5 0 3 rfl (by decide) (by omega)
    rw [hUe]; show ub _ (5 + 0) = _; rw [h2]; show (UInt8.ofNat (m + 13)).toNat = _; simp; omega
  have e1 : U 1 = SQ := by
    obtain ⟨_, h2⟩ := known (fe SQ F C cl lh ll m c1 c2') 6 0 4 rfl (by decide) (by omega)
    rw [hUe]; show ub _ (5 + 1) = _; rw [h2]; show (UInt8.ofNat SQ).toNat = _; simp; omega
  have e2 : U 2 = 64 + 128 * F := by rw [hUe]; exact k 2 (by decide) (show 64 + 128 * F < 256 by omega)
  have e3 : U 3 = 16 := by rw [hUe]; exact k 3 (by decide) (show (16 : Nat) < 256 by decide)
  have e5 : U 5 = 0 := by rw [hUe]; exact k 5 (by decide) (show (0 : Nat) < 256 by decide)
  have e6 : U 6 = 192 + C := by rw [hUe]; exact k 6 (by decide) (show 192 + C < 256 by omega)
  have e7 : U 7 = cl := by rw [hUe]; exact k 7 (by decide) (show cl < 256 by omega)
  have e8 : U 8 = lh := by rw [hUe]; exact k 8 (by decide) (show lh < 256 by omega)
  have e4 : U 4 = Fb.parA [0, 1, 0, m + 13, SQ, 64 + 128 * F, 16] := by
    rw [hUe]
    refine par_exact _ 0 _ _ _ _ _ _ _ _ (by omega) (by unfold fe; omega) rfl rfl rfl ?_ ?_ ?_ rfl
    · show (UInt8.ofNat (m + 13)).toNat = _; simp; omega
    · show (UInt8.ofNat SQ).toNat = _; simp; omega
    · show (UInt8.ofNat (64 + 128 * F)).toNat = _; simp; omega
  have hcost := h.cost
  rw [← hUe, show ub (fe SQ F C cl lh ll m c1 c2') (5 + 9) = U 9 by rw [hUe]] at hcost
  have hs : cS U = pc ((m + 13) ^^^ 235) + pc (SQ ^^^ 144) := by unfold cS; rw [e0, e1]
  obtain ⟨s16, -, -⟩ := six
  obtain ⟨p64, p64'⟩ := pc_64 F (by omega)
  have hLL : 1 ≤ pc (U 5 ^^^ LL) := by
    rw [e5, Nat.zero_xor]
    exact pc_pos LL (by have := h.pp.2.1; omega) (by have := h.pp.1; omega)
  have hbase : pc (64 + 128 * F) + 3 + pc (Fb.parA [0, 1, 0, m + 13, SQ, 64 + 128 * F, 16]) ≤ cB U LL SS FF D := by
    unfold cB
    rw [e2, e3, e4, s16]; omega
  have ha := Fb.allB_spec (Fb.allB_spec Fb.fo5_a F (by omega)) (m + 13) (by omega)
  simp only [Bool.or_eq_true, decide_eq_true_eq] at ha
  rcases ha with ha | ha
  · omega
  have ha := Fb.allB_spec ha SQ hSQ
  simp only [Bool.or_eq_true, Bool.and_eq_true, beq_iff_eq, decide_eq_true_eq] at ha
  rcases ha with ha | ha | ⟨⟨hF0, hs1⟩, hb5⟩
  · omega
  · omega
  · subst hF0
    have hb4 : 4 ≤ pc (U 2) + pc (U 3 ^^^ 1) + pc (U 4) := by rw [e2, e3, e4, s16]; omega
    have hle := cB_le U LL SS FF D 4 hb4
    have hk := Fb.allB_spec (Fb.allB_spec (Fb.allB_spec Fb.fo5_b C hC) cl hcl) lh hlh
    have hk' : Fb.cand 5 4 (U 5) (U 6) (U 7) (U 8) (fun LL SS FF D b => !Fb.ppB LL FF D || (FF == 0 || FF == 128) && decide (10 ≤ LL) && decide (2 ≤ pc (cl ^^^ ((D + 1) % 256)) + pc (((cl + 1) % 256) ^^^ ((D + 2) % 256))) || LL == 8 && FF == 128 && SS == 192 + C && cl == 128 && D == lh) = true := by
      rw [e5, e6, e7, e8]; exact hk
    have x5 : U 5 ^^^ LL < 256 := Nat.xor_lt_two_pow (n := 8) (hU 5) (by have := h.pp.2.1; omega)
    have x6 : U 6 ^^^ SS < 256 := Nat.xor_lt_two_pow (n := 8) (hU 6) h.pp.2.2.1
    have x8 : U 8 ^^^ D < 256 := Nat.xor_lt_two_pow (n := 8) (hU 8) h.pp.2.2.2.1
    have hk2 := Fb.cand_spec hk' LL SS FF D x5 x6 x8 h.pp.ff (by omega)
    rw [h.pp.b] at hk2
    simp only [Bool.not_true, Bool.false_or, Bool.or_eq_true, Bool.and_eq_true, beq_iff_eq, decide_eq_true_eq] at hk2
    have hm14' := hm14 rfl
    have hmn : 32 ≤ 8 * mN (fe SQ 0 C cl lh ll m c1 c2').length := by unfold fe; rw [hl]; unfold mN; omega
    have v10 : U 10 = cl := by
      obtain ⟨_, h2⟩ := known (fe SQ 0 C cl lh ll m c1 c2') 15 1 5 rfl (by decide) (by omega)
      rw [hUe]; show ub _ (5 + 10) = _; rw [show 5 + 10 = 15 from rfl, h2]; unfold fe; rw [foE_get _ _ _ _ _ _ _ _ _ _ (by decide) (by omega)]; omega
    have v11 : U 11 = (cl + 1) % 256 := by
      obtain ⟨_, h2⟩ := known (fe SQ 0 C cl lh ll m c1 c2') 16 1 6 rfl (by decide) (by omega)
      rw [hUe]; show ub _ (5 + 11) = _; rw [show 5 + 11 = 16 from rfl, h2]; unfold fe; rw [foE_get _ _ _ _ _ _ _ _ _ _ (by decide) (by omega)]
    have hc2 : pc (U 10 ^^^ q.getD 0 0) + pc (U 11 ^^^ q.getD 1 0) ≤ c2 U q := by unfold c2; omega
    rw [v10, v11] at hc2
    rcases hk2 with ⟨⟨hff, h10⟩, hk2⟩ | ⟨⟨⟨⟨h8, hf⟩, hss⟩, hc128⟩, hd⟩
    · have r0 := h.ramp hff 0 (by decide) (by omega)
      have r1 := h.ramp hff 1 (by decide) (by omega)
      rw [r0, r1] at hc2
      have e : (D + 1 + 0) % 256 = (D + 1) % 256 := rfl
      have e' : (D + 1 + 1) % 256 = (D + 2) % 256 := rfl
      rw [e, e'] at hc2
      omega
    · obtain ⟨q0, q1⟩ := h.crc hf h8 _ rfl
      rw [q0, q1, hss, hd, hc128, show (128 + 1) % 256 = 129 from rfl] at hc2
      have := crc_far C hC lh hlh
      omega
theorem fo_case6 (hF : F = 0 ∨ F = 1) (hC : C < 3) (hcl : cl < 256) (hlh : lh < 2) (hll : ll < 256) (h : Asked (fe SQ F C cl lh ll m c1 c2') 6 M LL SS FF D q) : False := by
  have hfit := h.fit; have hm2 := h.m2
  have hl := foE_len SQ (64 + 128 * F) (192 + C) cl lh ll m c1 c2'
  obtain ⟨U, hUe⟩ : ∃ U : Nat → Nat, U = fun i => ub (fe SQ F C cl lh ll m c1 c2') (6 + i) := ⟨_, rfl⟩
  have hU : ∀ i, U i < 256 := fun i => by rw [hUe]; exact ub_lt _ _
  have hm := match9 (o := 6) (n := 9) (fo_match SQ (64 + 128 * F) (192 + C) cl lh ll m c1 c2' (by omega) (by omega) hcl (by omega)) (by unfold fe at hfit; omega)
  have k := fun i hi => (hm i hi).1
  have e1 : U 1 = 64 + 128 * F := by rw [hUe]; exact k 1 (by decide) (show 64 + 128 * F < 256 by omega)
  have e2 : U 2 = 16 := by rw [hUe]; exact k 2 (by decide) (show (16 : Nat) < 256 by decide)
  have e3 : U 3 % 2 = 0 := by rw [hUe]; exact (hm 3 (by decide)).2 rfl
  have e4 : U 4 = 0 := by rw [hUe]; exact k 4 (by decide) (show (0 : Nat) < 256 by decide)
  have e5 : U 5 = 192 + C := by rw [hUe]; exact k 5 (by decide) (show 192 + C < 256 by omega)
  have e6 : U 6 = cl := by rw [hUe]; exact k 6 (by decide) (show cl < 256 by omega)
  have e7 : U 7 = lh := by rw [hUe]; exact k 7 (by decide) (show lh < 256 by omega)
  have e8 : U 8 = ll := by rw [hUe]; exact fo_ll hll (by omega)
  have hcost := h.cost
  rw [← hUe, show ub (fe SQ F C cl lh ll m c1 c2') (6 + 9) = U 9 by rw [hUe]] at hcost
  have hs : pc ((64 + 128 * F) ^^^ 144) ≤ cS U := by unfold cS; rw [e1]; omega
  have hs2 : 2 ≤ pc ((64 + 128 * F) ^^^ 144) ∧ pc ((64 + 128 * F) ^^^ 144) ≤ 3 := by rcases hF with rfl | rfl <;> decide
  obtain ⟨-, p16, p0⟩ := six
  have h3 := odd_pc (U 3) (hU 3) e3
  have hb2 : 2 ≤ pc (U 2) + pc (U 3 ^^^ 1) + pc (U 4) := by rw [e2, p16]; omega
  have hle := cB_le U LL SS FF D 2 hb2
  have hLL : 64 ≤ LL := by
    refine ch_far C hC LL (by have := h.pp.2.1; omega) h.pp.1 ?_
    rw [← e5]; omega
  have hM : 10 ≤ M := by have := h.short; omega
  have hmm : 57 ≤ m := by unfold mN at hfit; unfold fe at hfit; omega
  have kk : ∀ i, 12 ≤ i → i < 40 → ((fe SQ F C cl lh ll m c1 c2').getD i 0).toNat = (cl + (i - 12)) % 256 := fun i h1 h2 => by unfold fe; rw [foE_get _ _ _ _ _ _ _ _ _ _ h1 (by omega)]
  have vv : ∀ j B r, j = 2 + (8 * B + r) → r < 7 → 12 ≤ 7 * B + r → j < 40 → ub (fe SQ F C cl lh ll m c1 c2') j = (cl + (7 * B + r - 12)) % 256 := fun j B r hj hr h12 hj2 => by
    rw [(known (fe SQ F C cl lh ll m c1 c2') j B r hj hr (by omega)).2, kk _ h12 (by omega)]
  have v9 : U 9 = cl := by rw [hUe]; show ub _ (6 + 9) = _; rw [vv 15 1 5 rfl (by decide) (by decide) (by decide)]; omega
  have v10 : U 10 = (cl + 1) % 256 := by rw [hUe]; exact vv 16 1 6 rfl (by decide) (by decide) (by decide)
  have v11 : U 11 = Fb.parA [0, 192 + C, cl, lh, ll, cl, (cl + 1) % 256] := by rw [hUe]; exact fo_par1 hcl (by omega) hll hC (by omega)
  have v12 : U 12 = (cl + 2) % 256 := by rw [hUe]; exact vv 18 2 0 rfl (by decide) (by decide) (by decide)
  have v13 : U 13 = (cl + 3) % 256 := by rw [hUe]; exact vv 19 2 1 rfl (by decide) (by decide) (by decide)
  have v14 : U 14 = (cl + 4) % 256 := by rw [hUe]; exact vv 20 2 2 rfl (by decide) (by decide) (by decide)
  have v15 : U 15 = (cl + 5) % 256 := by rw [hUe]; exact vv 21 2 3 rfl (by decide) (by decide) (by decide)
  have v16 : U 16 = (cl + 6) % 256 := by rw [hUe]; exact vv 22 2 4 rfl (by decide) (by decide) (by decide)
  by_cases hff : FF = 0 ∨ FF = 128
  · have r := h.ramp hff
    have r0 := r 0 (by decide) (by omega); have r1 := r 1 (by decide) (by omega); have r2 := r 2 (by decide) (by omega); have r3 := r 3 (by decide) (by omega); have r4 := r 4 (by decide) (by omega); have r5 := r 5 (by decide) (by omega); have r6 := r 6 (by decide) (by omega)
    have hc2 : c2 U q = pc (((cl + 1) % 256) ^^^ ((D + 1) % 256)) + pc (Fb.parA [0, 192 + C, cl, lh, ll, cl, (cl + 1) % 256] ^^^ ((D + 2) % 256)) + pc (((cl + 2) % 256) ^^^ ((D + 3) % 256)) + pc (((cl + 3) % 256) ^^^ ((D + 4) % 256)) + pc (((cl + 4) % 256) ^^^ ((D + 5) % 256)) + pc (((cl + 5) % 256) ^^^ ((D + 6) % 256)) + pc (((cl + 6) % 256) ^^^ ((D + 7) % 256)) := by
      unfold c2
      rw [v10, v11, v12, v13, v14, v15, v16, r0, r1, r2, r3, r4, r5, r6]
    have hpair := Fb.allB_spec (Fb.allB_spec Fb.pairs_ok cl hcl) D h.pp.2.2.2.1
    simp only [Bool.or_eq_true, Bool.and_eq_true, beq_iff_eq, decide_eq_true_eq] at hpair
    rcases hpair with hpair | ⟨hD, hpair⟩
    · omega
    · have hk := Fb.allB_spec (Fb.allB_spec (show (Fb.allB 2 _) = true from Fb.fo6_r) F (by omega)) cl hcl
      simp only [Bool.or_eq_true, decide_eq_true_eq] at hk
      rw [← hD] at hk
      rcases hk with hk | hk
      · omega
      have hk := Fb.allB_spec hk lh hlh
      have hpl := lh_ff lh hlh
      have hlf : lh ≤ pc (U 7 ^^^ FF) := by rw [e7]; rcases hff with rfl | rfl <;> omega
      have hz : pc (D ^^^ ll) ≤ 2 := by
        rw [Nat.xor_comm, ← e8]; omega
      have hk := List.all_eq_true.1 hk (D ^^^ ll) (Fb.mz_spec 2 _ (Nat.xor_lt_two_pow (n := 8) h.pp.2.2.2.1 hll) hz)
      simp only [Bool.or_eq_true, decide_eq_true_eq, Fb.xx] at hk
      have hz2 : pc (D ^^^ ll) = pc (U 8 ^^^ D) := by rw [Nat.xor_comm, e8]
      rcases hk with hk | hk
      · omega
      have hk := Fb.allB_spec hk C hC
      simp only [Bool.or_eq_true, decide_eq_true_eq] at hk
      rcases hk with hk | hk
      · omega
      rw [← e5] at hk
      have hk' : Fb.cand (5 - (pc ((64 + 128 * F) ^^^ 144) - 1)) 2 (U 5) (U 6) (U 7) (U 8) (fun LL SS FF D2 b => !Fb.ppB LL FF D2 || !(FF == 0 || FF == 128) || D2 != D || decide (5 ≤ (pc ((64 + 128 * F) ^^^ 144) - 1) + (b + Fb.pCost cl LL SS FF D2 - 1) + (pc (((cl + 1) % 256) ^^^ cl) + pc (Fb.parA [0, U 5, cl, lh, ll, cl, (cl + 1) % 256] ^^^ ((D + 2) % 256)) - 1))) = true := by
        rw [e6, e7, e8]; exact hk
      have x5 : U 5 ^^^ LL < 256 := Nat.xor_lt_two_pow (n := 8) (hU 5) (by have := h.pp.2.1; omega)
      have x6 : U 6 ^^^ SS < 256 := Nat.xor_lt_two_pow (n := 8) (hU 6) h.pp.2.2.1
      have x8 : U 8 ^^^ D < 256 := Nat.xor_lt_two_pow (n := 8) (hU 8) h.pp.2.2.2.1
      have hk2 := Fb.cand_spec hk' LL SS FF D x5 x6 x8 h.pp.ff (by omega)
      have hfb : (FF == 0 || FF == 128) = true := by simpa using hff
      rw [h.pp.b, hfb] at hk2
      simp only [Bool.not_true, Bool.false_or, bne_self_eq_false, decide_eq_true_eq] at hk2
      rw [← e5] at hc2
      rw [v9] at hcost
      omega
  · have hff2 : FF = 64 ∨ FF = 192 := by
      rcases h.pp.2.2.2.2 with e | e | e | e <;> omega
    obtain ⟨q0, q3, q25, q2⟩ := h.head hff2
    have hk := Fb.allB_spec (Fb.allB_spec (Fb.allB_spec Fb.fo6_x F (by omega)) cl hcl) lh hlh
    have hk := List.all_eq_true.1 hk FF (by rcases hff2 with rfl | rfl <;> simp)
    simp only [decide_eq_true_eq] at hk
    have m3 := min2 ((cl + 3) % 256) (by omega) (q.getD 3 0) q3
    have t1 := pc_tri ((cl + 2) % 256) (q.getD 2 0) ((cl + 5) % 256) (by omega) q2 (by omega)
    have hc2 : pc ((cl + 1) % 256) + pc (((cl + 2) % 256) ^^^ ((cl + 5) % 256)) + min (pc ((cl + 3) % 256)) (pc (((cl + 3) % 256) ^^^ 1)) ≤ c2 U q := by
      unfold c2
      rw [v10, v12, v13, v15, q0, ← q25, Nat.xor_zero]
      omega
    rw [e7] at hle
    omega
theorem fo_none (hF : F = 0 ∨ F = 1) (hSQ : SQ < 256) (hm1 : 1 ≤ m) (hm193 : m ≤ 193) (hm14 : F = 0 → 14 ≤ m) (hC : C < 3) (hcl : cl < 256) (hlh : lh < 2) (hll : ll < 256) (h : Asked (fe SQ F C cl lh ll m c1 c2') o M LL SS FF D q) : False := by
  have hfit := h.fit; have hm2 := h.m2; have ho1 := h.o1
  have hl := foE_len SQ (64 + 128 * F) (192 + C) cl lh ll m c1 c2'
  by_cases ho : 18 ≤ o
  · refine deep h ((o - 2) / 8) ((o - 2) % 8) ((cl + (7 * ((o - 2) / 8) - 12)) % 256) (by omega) (by omega) (by omega) (fun i hi hi2 => ?_)
    unfold fe at hi2 ⊢
    rw [hl] at hi2
    rw [foE_get _ _ _ _ _ _ _ _ _ i (by omega) (by omega)]
    omega
  · by_cases h5 : o = 5
    · subst h5; exact fo_case5 hF hSQ hm1 hm193 hm14 hC hcl hlh hll h
    by_cases h6 : o = 6
    · subst h6; exact fo_case6 hF hC hcl hlh hll h
    have hU : ∀ i, ub (fe SQ F C cl lh ll m c1 c2') (o + i) < 256 := fun i => ub_lt _ _
    have hcost := h.cost
    have hM' := fo_match SQ (64 + 128 * F) (192 + C) cl lh ll m c1 c2' (by omega) (by omega) hcl (by omega)
    by_cases hM : M = 2
    · obtain ⟨rfl, hL⟩ := h.low hM
      have hk := Fb.allB_spec (Fb.allB_spec (Fb.allB_spec (Fb.allB_spec (Fb.allB_spec Fb.fo_s F (by omega)) C hC) cl hcl) lh hlh) o (by omega)
      simp only [Bool.or_eq_true, beq_iff_eq, decide_eq_true_eq] at hk
      have h3 := lbS_sound _ _ hU (match9 (n := 8) hM' (by unfold fe at hfit; omega)) LL SS D h.pp.1 hL
      omega
    · have hk := Fb.allB_spec (Fb.allB_spec (Fb.allB_spec (Fb.allB_spec (Fb.allB_spec Fb.fo_ok F (by omega)) C hC) cl hcl) lh hlh) o (by omega)
      simp only [Bool.or_eq_true, Bool.and_eq_true, beq_iff_eq, decide_eq_true_eq] at hk
      have hm9 := match9 (o := o) (n := 9) hM' (by unfold fe at hfit; omega)
      rcases hk with (((((hk | hk) | hk) | ⟨⟨⟨rfl, rfl⟩, rfl⟩, rfl⟩) | ⟨⟨⟨rfl, rfl⟩, rfl⟩, hk⟩) | ⟨rfl, rfl⟩) | hk
      · omega
      · exact h5 hk
      · exact h6 hk
      · exact fo_case9 hF hll h
      · exact fo_case11 hF hk hll h
      · have k := fun i hi => hm9 i hi
        have hmm : 24 ≤ m + 14 := by unfold fe at hfit; rw [hl] at hfit; unfold mN at hfit; omega
        have ha := al_use LL SS FF D _ hU h.pp ((k 0 (by decide)).1 (by show (254 + 1) % 256 < 256; decide)) ((k 1 (by decide)).2 rfl) ((k 2 (by decide)).1 (by show (254 + 2) % 256 < 256; decide)) ((k 3 (by decide)).1 (by show (254 + 2 + 1) % 256 < 256; decide)) ((k 4 (by decide)).1 (by show (254 + 2 + 2) % 256 < 256; decide)) ((k 5 (by decide)).1 (by show (254 + 2 + 3) % 256 < 256; decide)) ((k 6 (by decide)).1 (by show (254 + 2 + 4) % 256 < 256; decide)) ((k 7 (by decide)).1 (by show (254 + 2 + 5) % 256 < 256; decide)) ((k 8 (by decide)).1 (by show (254 + 2 + 6) % 256 < 256; decide)) (by
          refine par_exact _ 2 _ _ _ _ _ _ _ _ (by omega) (by unfold fe; omega) ?_ ?_ ?_ ?_ ?_ ?_ ?_ <;> (unfold fe; rw [foE_get _ _ _ _ _ _ _ _ _ _ (by decide) (by unfold fe at hfit; rw [hl] at hfit; unfold mN at hfit; omega)] <;> rfl))
        omega
      · have h3 := lb_sound _ _ hU hm9 LL SS FF D h.pp
        omega
end
end
section
open Go.RowKit
open Fb (pc)
/-- The bytes of a frame of the link. -/
def Fr (e : List UInt8) : Prop :=
  (∃ SQ F x m c1 c2, e = mlE SQ (128 * F) x m c1 c2 ∧ SQ < 256 ∧ (F = 0 ∧ 20 ≤ m ∨ F = 1 ∧ 1 ≤ m) ∧ x < 256 ∧ m ≤ 199 ∧ [c1, c2] = be2 (sum16 (e.take (m + 6))).toNat) ∨
  (∃ SQ F C cl lh ll m c1 c2, e = fe SQ F C cl lh ll m c1 c2 ∧ SQ < 256 ∧ (F = 0 ∧ 14 ≤ m ∨ F = 1 ∧ 1 ≤ m) ∧ m ≤ 193 ∧ C < 3 ∧ cl < 256 ∧ lh < 2 ∧ ll < 256)
theorem Fr.len {e : List UInt8} (h : Fr e) : 9 ≤ e.length ∧ e.length ≤ 207 := by
  rcases h with ⟨SQ, F, x, m, c1, c2, rfl, _, h1, _, h2, _⟩ | ⟨SQ, F, C, cl, lh, ll, m, c1, c2, rfl, _, h1, h2, _⟩
  · rw [mlE_len]; omega
  · unfold fe; rw [foE_len]; omega
theorem hd7 (a0 a1 a2 a3 a4 a5 a6 b0 b1 b2 b3 b4 b5 b6 : UInt8) : hd [a0, a1, a2, a3, a4, a5, a6] [b0, b1, b2, b3, b4, b5, b6] = bd a0 b0 + bd a1 b1 + bd a2 b2 + bd a3 b3 + bd a4 b4 + bd a5 b5 + bd a6 b6 := by
  simp [hd]; omega
theorem take7 (u : List UInt8) (k : Nat) (h : k + 7 ≤ u.length) : (u.drop k).take 7 = [u.getD k 0, u.getD (k + 1) 0, u.getD (k + 2) 0, u.getD (k + 3) 0, u.getD (k + 4) 0, u.getD (k + 5) 0, u.getD (k + 6) 0] := by
  rw [take_getD u k 7 h]; rfl
theorem list7 (l : List UInt8) (h : l.length = 7) : l = [l.getD 0 0, l.getD 1 0, l.getD 2 0, l.getD 3 0, l.getD 4 0, l.getD 5 0, l.getD 6 0] := by
  match l, h with
  | [a, b, c, d, e, f, g], _ => rfl
theorem ramp_asked {eq : List UInt8} {o M LL SS FF D : Nat} {q : List Nat} (hq : Fr eq) (h : Asked eq o M LL SS FF D q) : False := by
  rcases hq with ⟨SQ, F, x, m, c1, c2, rfl, h1, h2, h3, h4, _⟩ | ⟨SQ, F, C, cl, lh, ll, m, c1, c2, rfl, h1, h2, h3, h4, h5, h6, h7⟩
  · exact ml_none (by omega) h3 h
  · exact fo_none (by omega) h1 (by omega) h3 (by omega) h4 h5 h6 h7 h
theorem asked_cost (e : List UInt8) (o LL SS FF D : Nat) (p q : List UInt8) (hp : p = [0, 1, 0, UInt8.ofNat LL, UInt8.ofNat SS, UInt8.ofNat FF, UInt8.ofNat D]) (hL : LL < 256) (hS : SS < 256) (hF : FF < 256) (hD : D < 256) (hq : q.length = 7) (hl : o + 18 ≤ (putL e).length)
    (h : (hd (((putL e).drop o).take 2) [235, 144] - 1) + (hd (((putL e).drop (o + 2)).take 7) p + pc ((((putL e).getD (o + 9) 0).toNat ^^^ (254 - 2 * remL p)) / 2) - 1) + (hd (((putL e).drop (o + 10)).take 7) q - 1) ≤ 4) :
    (cS (fun i => ub e (o + i)) - 1) + (cB (fun i => ub e (o + i)) LL SS FF D + Fb.pCost (ub e (o + 9)) LL SS FF D - 1) + (c2 (fun i => ub e (o + i)) (q.map UInt8.toNat) - 1) ≤ 4 := by
  have eL : (UInt8.ofNat LL).toNat = LL := by simp; omega
  have eS : (UInt8.ofNat SS).toNat = SS := by simp; omega
  have eF : (UInt8.ofNat FF).toNat = FF := by simp; omega
  have eD : (UInt8.ofNat D).toNat = D := by simp; omega
  have s0 : hd (((putL e).drop o).take 2) [235, 144] = cS (fun i => ub e (o + i)) := by
    rw [take_getD _ o 2 (by omega)]; rfl
  have s1 : hd (((putL e).drop (o + 2)).take 7) p = cB (fun i => ub e (o + i)) LL SS FF D := by
    rw [take7 _ _ (by omega), hp, hd7]
    unfold bd cB ub
    rw [eL, eS, eF, eD]
    have z : (0 : UInt8).toNat = 0 := rfl
    have z1 : (1 : UInt8).toNat = 1 := rfl
    rw [z, z1, Nat.xor_zero, Nat.xor_zero]
  have s2 : pc ((((putL e).getD (o + 9) 0).toNat ^^^ (254 - 2 * remL p)) / 2) = Fb.pCost (ub e (o + 9)) LL SS FF D := by
    unfold Fb.pCost Fb.parA
    rw [← remA_rem, hp]
    simp only [List.map_cons, List.map_nil, eL, eS, eF, eD]
    rfl
  have s3 : hd (((putL e).drop (o + 10)).take 7) q = c2 (fun i => ub e (o + i)) (q.map UInt8.toNat) := by
    rw [take7 _ _ (by omega), list7 q hq, hd7]
    rfl
  rw [s0, s1, s2, s3] at h
  exact h
/-- The bytes of p as a window's hypothesis asks them. -/
theorem asked_of {ep rest s t : List UInt8} (hp : Fr ep) (hs : s = (ep ++ rest).take 7) (ht : t = ((ep ++ rest).drop 7).take 7) : ∃ LL SS FF D, s = [0, 1, 0, UInt8.ofNat LL, UInt8.ofNat SS, UInt8.ofNat FF, UInt8.ofNat D] ∧ PP LL SS FF D ∧ LL + 1 = ep.length ∧
    (FF = 0 ∨ FF = 128 → ∀ i, i < 7 → i + 9 ≤ LL → (t.map UInt8.toNat).getD i 0 = (D + 1 + i) % 256) ∧
    (FF = 128 → LL = 8 → ∀ v : BitVec 16, v = sum16 [0, 1, 0, 8, UInt8.ofNat SS, 128, UInt8.ofNat D] → (t.map UInt8.toNat).getD 0 0 = v.toNat / 256 ∧ (t.map UInt8.toNat).getD 1 0 = v.toNat % 256) ∧
    (FF = 64 ∨ FF = 192 → (t.map UInt8.toNat).getD 0 0 = 0 ∧ (t.map UInt8.toNat).getD 3 0 ≤ 1 ∧ (t.map UInt8.toNat).getD 2 0 = (t.map UInt8.toNat).getD 5 0 ∧ (t.map UInt8.toNat).getD 2 0 < 256) := by
  have hlen := hp.len
  have tg : ∀ i, i < 7 → 7 + i < ep.length → (t.map UInt8.toNat).getD i 0 = (ep.getD (7 + i) 0).toNat := by
    intro i hi h7
    rw [ht, List.getD_eq_getElem?_getD, List.getElem?_map, List.getElem?_take, if_pos hi, List.getElem?_drop, List.getElem?_append_left h7, List.getD_eq_getElem?_getD]
    rw [List.getElem?_eq_getElem h7]; rfl
  have sg : s = ep.take 7 := by rw [hs, List.take_append_of_le_length (by omega)]
  rcases hp with ⟨SQ, F, x, m, c1, c2', he, h1, h2, h3, h4, hcrc⟩ | ⟨SQ, F, C, cl, lh, ll, m, c1, c2', he, h1, h2, h3, h4, h5, h6, h7⟩
  · have hl := mlE_len SQ (128 * F) x m c1 c2'
    rw [← he] at hl
    refine ⟨m + 7, SQ, 128 * F, x, ?_, ⟨by omega, by omega, h1, h3, by omega⟩, by omega, fun _ i hi hi2 => ?_, fun hF hm8 v hv => ?_, fun hF => by omega⟩
    · rw [sg, he]
      have : rampL x m = UInt8.ofNat x :: (rampL x m).drop 1 := by
        have hne : 0 < (rampL x m).length := by rw [rampL_len]; omega
        conv => lhs; rw [← List.take_append_drop 1 (rampL x m)]
        have : (rampL x m).take 1 = [UInt8.ofNat x] := by
          obtain ⟨k, rfl⟩ : ∃ k, m = k + 1 := ⟨m - 1, by omega⟩
          simp [rampL, List.range_succ_eq_map]
        rw [this]; rfl
      unfold mlE
      rw [this]; rfl
    · rw [tg i hi (by omega), he, mlE_get SQ (128 * F) x m c1 c2' _ (by omega) (by omega)]
      omega
    · have hm1 : m = 1 := by omega
      subst hm1
      have hF1 : F = 1 := by omega
      subst hF1
      have e6 : ep.take (1 + 6) = [0, 1, 0, 8, UInt8.ofNat SQ, 128, UInt8.ofNat x] := by rw [he]; rfl
      rw [e6, ← hv] at hcrc
      have g7 : ep.getD 7 0 = c1 := by rw [he]; rfl
      have g8 : ep.getD 8 0 = c2' := by rw [he]; rfl
      rw [tg 0 (by decide) (by omega), tg 1 (by decide) (by omega), g7, g8]
      have hvl := v.isLt
      simp only [be2, List.cons.injEq, and_true] at hcrc
      rw [hcrc.1, hcrc.2]
      simp; omega
  · have hl := foE_len SQ (64 + 128 * F) (192 + C) cl lh ll m c1 c2'
    rw [show foE SQ (64 + 128 * F) (192 + C) cl lh ll m c1 c2' = fe SQ F C cl lh ll m c1 c2' from rfl, ← he] at hl
    refine ⟨m + 13, SQ, 64 + 128 * F, 16, by rw [sg, he]; rfl, ⟨by omega, by omega, h1, by decide, by omega⟩, by omega, fun hF => by omega, fun hF => by omega, fun _ => ?_⟩
    have g7 : (ep.getD 7 0).toNat = 0 := by rw [he]; rfl
    have g9 : (ep.getD 9 0).toNat = cl := by rw [he]; show (UInt8.ofNat cl).toNat = cl; simp; omega
    have g10 : (ep.getD 10 0).toNat = lh := by rw [he]; show (UInt8.ofNat lh).toNat = lh; simp; omega
    have g12 : (ep.getD 12 0).toNat = cl := by
      rw [he]; unfold fe; rw [foE_get _ _ _ _ _ _ _ _ _ 12 (by decide) (by omega)]; omega
    rw [tg 0 (by decide) (by omega), tg 3 (by decide) (by omega), tg 2 (by decide) (by omega), tg 5 (by decide) (by omega)]
    exact ⟨g7, by rw [g10]; omega, by rw [g9, g12], by rw [g9]; omega⟩
/-- Of the units that are found in a spoilt unit none but the first holds a frame of the link. -/
theorem embed (eq ep u' rest : List UInt8) (ps : Ps) (D : ByteArray) (j : Nat) (hq : Fr eq) (hp : Fr ep) (hlen : (putL eq).length = u'.length) (h4 : hd (putL eq) u' ≤ 4) (hf : ps.fine) (hfd : ps.found = []) (hj : 1 ≤ j) (hD : (feedP ps u').found[j]? = some D) (he : D.data.toList = ep ++ rest) : False := by
  obtain ⟨x, w1, w2, hu, hx, pre, a, b, bs, last, hw, hst, hg, hdd, hlast⟩ := outs1 u' ps hf hfd j D hj hD
  have hql := hq.len; have hpl := hp.len
  obtain ⟨hb1, hb2⟩ := fsts_len bs hg
  have hlD : 7 * bs.length = ep.length + rest.length := by rw [← hb2, ← hdd, he, List.length_append]
  have hu' : u' = (x ++ pre) ++ [a, b] ++ fsts bs ++ (last ++ w2) := by rw [hu, hw]; simp
  have hul : u'.length = x.length + pre.length + 2 + 8 * bs.length + last.length + w2.length := by
    rw [hu']; simp only [List.length_append, List.length_cons, List.length_nil, hb1]; omega
  rw [putL_len] at hlen
  have hmN : 7 * mN eq.length ≤ eq.length + 6 := by unfold mN; omega
  have hl8 : last.length = 8 := by
    rcases hlast with h | ⟨_, h⟩
    · exact h
    · rw [hdd, hb2] at h; omega
  match bs, hg, hdd, hb1, hb2, hlD, hu', hul with
  | [], _, _, _, _, hlD, _, _ => simp at hlD; omega
  | [_], _, _, _, _, hlD, _, _ => simp at hlD; omega
  | p :: q :: bs', hg, hdd, hb1, hb2, hlD, hu', hul =>
    have hgp := hg p (by simp); have hgq := hg q (by simp)
    have hp7 := good_snd p hgp; have hq7 := good_snd q hgq
    have hlen2 : (putL eq).length = u'.length := by rw [putL_len]; exact hlen
    obtain ⟨hw1, hw2⟩ := window (putL eq) u' (x ++ pre) (last ++ w2) a b p q bs' hlen2 hu' hst hgp hgq h4
    have hsn : ep ++ rest = p.2 ++ (q.2 ++ snds bs') := by rw [← he, hdd]; simp [snds]
    have hs : p.2 = (ep ++ rest).take 7 := by rw [hsn, ← hp7, List.take_left]
    have ht : q.2 = ((ep ++ rest).drop 7).take 7 := by
      rw [hsn]
      conv => rhs; rw [← hp7]
      rw [List.drop_left, hp7, ← hq7, List.take_left]
    obtain ⟨LL, SS, FF, Dd, e1, hPP, e2, r1, r2, r3⟩ := asked_of hp hs ht
    have hFF : FF < 256 := by rcases hPP.2.2.2.2 with h | h | h | h <;> omega
    have hcost := asked_cost eq (x ++ pre).length LL SS FF Dd p.2 q.2 e1 (by have := hPP.2.1; omega) hPP.2.2.1 hFF hPP.2.2.2.1 hq7 hw1 hw2
    have hol : (x ++ pre).length = x.length + pre.length := by simp
    simp only [List.length_cons] at hul hlD
    exact ramp_asked (o := (x ++ pre).length) (M := bs'.length + 2) hq ⟨hPP, by omega, by omega, by omega, by omega, r1, r2, r3, hcost⟩
end
section
open Go.RowKit
/-- The big-endian bytes of a number below 65536. -/
def w2 (n : Nat) : List UInt8 := [UInt8.ofNat (n / 256), UInt8.ofNat (n % 256)]
def wordsL (l : List Nat) : List UInt8 := l.flatMap w2
theorem wordsL_snoc (l : List Nat) (n : Nat) : wordsL (l ++ [n]) = wordsL l ++ w2 n := by simp [wordsL]
theorem wordsL_len (l : List Nat) : (wordsL l).length = 2 * l.length := by
  induction l with
  | nil => rfl
  | cons a l ih => rw [show wordsL (a :: l) = w2 a ++ wordsL l from rfl, List.length_append, ih]; simp [w2]; omega
theorem append_two_q {ops : Array Oper} {rest : List Oper} {o : Oper} {a : Act} {Q : Exit → Act → World → Prop} (w : World) (hgd : o.guard = none) (s x : Operand)
    (ho : o.op = .call { callee := .builtin .append, args := #[s, x], argTypes := #[97, 97] })
    (v : Value) (l : List UInt8) (hs : a.eval s = v) (hrow : BRow w v l) (g : Nat) (c d : UInt8) (hx : a.eval x = .slice (some ⟨g, 0, none⟩) 2 2) (hc : w.cell? ⟨g, 0, none⟩ = some (vb c)) (hd : w.cell? ⟨g, 1, none⟩ = some (vb d))
    (hlen : l.length ≤ 1000000)
    (h : ∀ v' w', BRow w' v' (l ++ [c, d]) → Keep v.ownBlock.toList w w' → (v'.ownBlock = v.ownBlock ∨ v'.ownBlock = some w.heap.size) → wpList Tryz.prog ops Q rest (a.put o.dst v') w') : wpList Tryz.prog ops Q (o :: rest) a w := by
  obtain ⟨i0, hi, hz0, hz1, hz2⟩ := info_parts info_u8
  refine wpList_append_q w hgd s x 97 5 1 1 i0 (.int .u8 0) ho Tryz.underlying97 hi hz0 rfl hz1 hz2 0 v l.length (l.map vb) hs hrow g 0 2 2 [vb c, vb d] hx rfl (fun u hu => vb_one [c, d] u hu) (fun j u hj => ?_) (by omega) (by unfold maxLen; omega) (Nat.zero_le _) (fun v' w' h1 h2 h3 => h v' w' ?_ h2 h3)
  · cases j with
    | zero => simp at hj; subst hj; exact hc
    | succ j =>
      cases j with
      | zero => simp at hj; subst hj; exact hd
      | succ j => simp at hj
  · have e : (l ++ [c, d]).map vb = l.map vb ++ [vb c, vb d] := by simp
    unfold BRow
    rw [e, List.length_append]
    exact h1
set_option maxHeartbeats 8000000 in
set_option maxRecDepth 100000 in
theorem words_any (l : List Nat) (n : Nat) (hn : l.length = n) (hn3 : n ≤ 1000) (hl : ∀ x ∈ l, x < 65536) (g : Nat) (w : World) (hB : Blk w g (l.map fun (x : Nat) => Value.int .i64 (x : Int)) 3) :
    Calls Tryz.prog 101 #[.slice (some ⟨g, 0, none⟩) n n] w fun e w' => ∃ v, e = .returned v ∧ BRow w' v (wordsL l) ∧ Below w.heap.size w w' := by
  have HB := Lib.hid hB; have HL := Lib.hid hl; have HN := Lib.hid hn
  clear hB hl hn
  go_enter Tryz.func101, Tryz.ntmps101
  go_wp2_with fail
  go_loopw [3, 8] (fun v i wr => ∃ k : Nat, k ≤ n ∧ i = .int .i64 k ∧ BRow wr v (wordsL (l.take k)) ∧ Below w.heap.size w wr ∧ ∀ j, v.ownBlock = some j → w.heap.size ≤ j) (fun _ i _ => n - (intOf i).toNat)
  case atStart => exact ⟨0, Nat.zero_le _, rfl, by simp [wordsL]; exact brow_nil _, Below.refl _ _, fun j hj => by cases hj⟩
  case round =>
    obtain ⟨k, hk, rfl, hR, hL, ho⟩ := hrel
    have HR := Lib.hid hR; have HLL := Lib.hid hL; have HO := Lib.hid ho
    obtain ⟨va, vc, rfl⟩ := brow_form hR
    clear hR hL ho
    by_cases hlt : k < n
    · have hkl : k < l.length := by rw [HN.out]; exact hlt
      obtain ⟨x, hx⟩ : ∃ x, x = l.getD k 0 := ⟨_, rfl⟩
      have hxg : l[k] = x := by rw [hx, List.getD_eq_getElem?_getD, List.getElem?_eq_getElem hkl]; rfl
      have hx2 : x < 65536 := by rw [← hxg]; exact HL.out _ (List.getElem_mem hkl)
      have c0 : wr.cell? ⟨g, k, none⟩ = some (.int .i64 (x : Int)) := by
        rw [HLL.out.cell (p := ⟨g, k, none⟩) HB.out.lt, HB.out.cell k, List.getElem?_map, List.getElem?_eq_getElem hkl, hxg]; rfl
      have HX := Lib.hid hx; have HXG := Lib.hid (show (l.take (k + 1)) = l.take k ++ [x] by rw [List.take_succ_eq_append_getElem hkl, hxg])
      clear hx hxg hkl
      obtain ⟨c, hc⟩ : ∃ c : UInt8, c = UInt8.ofNat (x / 256) := ⟨_, rfl⟩
      obtain ⟨d, hd⟩ : ∃ d : UInt8, d = UInt8.ofNat (x % 256) := ⟨_, rfl⟩
      have hcn : (x : Int) / 256 = (c.toNat : Int) := by rw [hc]; simp; omega
      have hdn : (x : Int) % 256 = (d.toNat : Int) := by rw [hd]; simp
      have HCD := Lib.hid (show wordsL (l.take (k + 1)) = wordsL (l.take k) ++ [c, d] by rw [HXG.out, wordsL_snoc, hc, hd]; rfl)
      clear hc hd
      go_wp2_with (at_builtin; refine append_two_q _ rfl _ _ rfl _ _ rfl (q_alloc HR.out _) wr.heap.size c d rfl ((Blk.new wr [vb c, vb d] 5).cell 0) ((Blk.new wr [vb c, vb d] 5).cell 1) (by rw [wordsL_len, List.length_take]; omega) ?_)
      intro v1 w1 hR1 hK1 hm1
      have hL1 : Below w.heap.size w w1 := HLL.out.trans (((Below.refl _ _).alloc HLL.out.size _).trans (Keep.toBelowAt hK1 (Nat.le_trans HLL.out.size ((((Below.refl wr.heap.size wr).alloc (Nat.le_refl _) _)).size)) (fun i hi => HO.out i (by simpa [Option.mem_toList] using hi))))
      have ho1 : ∀ j, v1.ownBlock = some j → w.heap.size ≤ j := fun j hj => by
        rcases hm1 with e | e
        · exact HO.out j (by rw [← e]; exact hj)
        · rw [e] at hj; injection hj with hj; subst hj
          have := HLL.out.size
          simp; omega
      have HL1 := Lib.hid hL1; have HR1 := Lib.hid hR1; have HO1 := Lib.hid ho1
      obtain ⟨va1, vc1, rfl⟩ := brow_form hR1
      clear hL1 hR1 ho1 hK1 hm1 HLL HR HO c0
      go_wp2_with fail
      refine ⟨⟨k + 1, by omega, by go_num, ?_, HL1.out, HO1.out⟩, by simp [intOf]; omega⟩
      rw [HCD.out]; exact HR1.out
    · obtain rfl : k = n := by omega
      have e1 : l.take k = l := List.take_of_length_le (by rw [HN.out]; exact Nat.le_refl _)
      rw [e1] at HR HO ⊢
      clear e1
      go_wp2_with fail
      go_ret
      exact ⟨_, rfl, HR.out, HLL.out⟩
end
section
open Go.RowKit
def packetC (c : Nat) (d : ByteArray) : List Value := [.bool true, .int .i64 0, .int .i64 3, .int .i64 c, .string d]
/-- The command packet with a count. -/
def packetL (c : Nat) (d : List UInt8) : List UInt8 := wordsL [4096, 49152 + c, d.length - 1] ++ d
set_option maxHeartbeats 8000000 in
set_option maxRecDepth 100000 in
theorem pkValid_any (c : Nat) (d : ByteArray) (w : World) (hc : c ≤ 16383) (h1 : 1 ≤ d.size) (h2 : d.size ≤ 1024) :
    Calls Tryz.prog 84 #[.agg (packetC c d).toArray] w fun e w' => e = .returned (.bool true) ∧ Below w.heap.size w w' := by
  have k1 : d.toList.isEmpty = false := by
    rw [toList_data]
    cases he : d.data.toList with
    | nil => have h3 : d.data.toList.length = d.size := by simp
             rw [he] at h3; simp at h3; omega
    | cons a l => rfl
  have k2 : ¬ (1024 : Int) < d.size := by omega
  have k3 : ¬ (c : Int) < 0 := by omega
  have k4 : ¬ (16383 : Int) < c := by omega
  unfold packetC
  go_enter Tryz.func84, Tryz.ntmps84
  go_wp2_with fail
  all_goals (go_ret; exact ⟨rfl, (Below.refl _ _).alloc (Nat.le_refl _) _⟩)
section
variable {P : Program} {ops : Array Oper} {Q : Exit → Act → World → Prop} {md : Region.Mode} {S : World → Prop}
theorem heldTake {i : Nat} (d : Option Tmp) {oi : Oper} {v : Value} {fuel : Nat} {listed : Array Bool} {a : Act} {w : World} (hi : ops[i]? = some oi) (hd : oi.dst = d) (hs : Region.noSelect ops = true) (hf : Region.free md ops listed i = true)
    (hr : (Region.ready md ops listed).contains i = true) (hQ : ∀ c a w, Q (.panic c) (a.put d v) w → Q (.panic c) a w) (hw : Region.wanted oi (yielded ops a.tmps) = true) (hS : S w) (hy : ∀ w, S w → (execOp a.eval oi).run P w = .ok (.value v) w)
    (h : wpAnyH P md ops Q S fuel (listed.setIfInBounds i true) (a.put d v) w) : wpAnyH P md ops Q S (fuel + 1) listed a w := by
  subst hd
  exact wpAnyH_take hi hs hf hr hQ (.inl ⟨hw, hy⟩) hS h
end
theorem or_cnt : ∀ c : Nat, c < 1000 → bits .or .i64 49152 (c : Int) = ((49152 + c : Nat) : Int) := by decide +kernel
theorem or_cmd : bits .or .i64 0 4096 = 4096 := by decide
set_option maxHeartbeats 8000000 in
set_option maxRecDepth 100000 in
theorem pkencoded_any (c : Nat) (d : ByteArray) (w : World) (hc : c < 1000) (h1 : 1 ≤ d.size) (h2 : d.size ≤ 1024) :
    Calls Tryz.prog 85 #[.agg (packetC c d).toArray] w fun e w' => e = .returned (strOf (packetL c d.data.toList)) ∧ Below w.heap.size w w' := by
  have k1 := or_cmd
  have k2 := or_cnt c hc
  obtain ⟨m, hm⟩ : ∃ m, m = d.size - 1 := ⟨_, rfl⟩
  have k3 : (d.size : Int) - 1 = ((m : Nat) : Int) := by omega
  obtain ⟨c2, hc2⟩ : ∃ c2, c2 = 49152 + c := ⟨_, rfl⟩
  rw [← hc2] at k2
  have k4 : IntKind.i64.wrap 49152 = 49152 := by decide
  rw [← k4] at k2
  clear k4
  have hm2 : m < 65536 := by omega
  have k5 : IntKind.i64.wrap ((m : Nat) : Int) = ((m : Nat) : Int) := IntWalk.i64_in _ (by omega)
  have hc3 : c2 < 65536 := by omega
  have hpl : packetL c d.data.toList = wordsL [4096, c2, m] ++ d.data.toList := by
    unfold packetL; rw [hc2, hm]; simp
  have HPL := Lib.hid hpl
  have HWL := Lib.hid (show (wordsL [4096, c2, m]).length = 6 from wordsL_len _)
  have HL0 := Lib.hid ((Below.refl w.heap.size w).alloc (Nat.le_refl _) (Obj.cells (packetC c d).toArray 115))
  have HB0 := Lib.hid (Blk.new w (packetC c d) 115)
  clear hpl hm hc2 hc
  unfold packetC at HL0 HB0 ⊢
  go_enter Tryz.func85, Tryz.ntmps85
  go_upto_region 4 with fail
  obtain ⟨g, hg⟩ : ∃ g, g = w.heap.size := ⟨_, rfl⟩
  have HGE := Lib.hid hg
  rw [← hg] at HB0 ⊢
  refine gen_world (fun W => Blk W g [.bool true, .int .i64 0, .int .i64 3, .int .i64 c, .string d] 115 ∧ Below w.heap.size w W) ⟨HB0.out, HL0.out⟩ ?_
  clear HB0 HL0 hg
  rintro W ⟨hB, hL⟩
  have HB := Lib.hid hB; have HL := Lib.hid hL; clear hB hL
  obtain ⟨X, hX⟩ : ∃ X, X = wordsL [4096, c2, m] := ⟨_, rfl⟩
  have hX6 : X.length = 6 := by rw [hX]; exact HWL.out
  have HW := Lib.hid (fun (V : World) (q : Nat) (hB : Blk V q [.int .i64 4096, .int .i64 c2, .int .i64 m] 3) => (by rw [hX]; exact words_any [4096, c2, m] 3 rfl (by decide) (by intro x hx; simp at hx; omega) q V hB : Calls Tryz.prog 101 #[.slice (some ⟨q, 0, none⟩) 3 3] V fun e w' => ∃ v, e = .returned v ∧ BRow w' v X ∧ Below V.heap.size V w'))
  have HX := Lib.hid hX
  clear hX
  have hadd : ∀ V : World, (binOp BinOp.add 9 (.string ⟨X.toArray⟩) (.string d)).run Tryz.prog V = .ok (.string (⟨X.toArray⟩ ++ d)) V := by
    have k7 : ¬ 9223372036854775807 < X.length + d.size := by omega
    intro V
    go_simp
    omega
  have hHold : W.cell? ⟨g, 2, none⟩ = some (.int .i64 3) ∧ W.cell? ⟨g, 3, none⟩ = some (.int .i64 c) ∧ W.cell? ⟨g, 4, none⟩ = some (.string d) := ⟨HB.out.cell 2, HB.out.cell 3, HB.out.cell 4⟩
  have hHold2 : (W.alloc (Obj.cells #[.int .i64 4096, .int .i64 c2, .int .i64 m] 3)).cell? ⟨g, 2, none⟩ = some (.int .i64 3) ∧ (W.alloc (Obj.cells #[.int .i64 4096, .int .i64 c2, .int .i64 m] 3)).cell? ⟨g, 3, none⟩ = some (.int .i64 c) ∧ (W.alloc (Obj.cells #[.int .i64 4096, .int .i64 c2, .int .i64 m] 3)).cell? ⟨g, 4, none⟩ = some (.string d) := ⟨(HB.out.alloc _).cell 2, (HB.out.alloc _).cell 3, (HB.out.alloc _).cell 4⟩
  have k6 : (9223372036854775807 < 6 + d.size) = False := by simp only [eq_iff_iff, iff_false]; omega
  have HH3 := Lib.hid (fun (w2 : World) (hL2 : Below (W.alloc (Obj.cells #[.int .i64 4096, .int .i64 c2, .int .i64 m] 3)).drew.heap.size (W.alloc (Obj.cells #[.int .i64 4096, .int .i64 c2, .int .i64 m] 3)).drew w2) => (⟨(hL2.cell (p := ⟨g, 2, none⟩) ((HB.out.alloc _).drew.lt)).trans ((HB.out.alloc _).drew.cell 2), (hL2.cell (p := ⟨g, 3, none⟩) ((HB.out.alloc _).drew.lt)).trans ((HB.out.alloc _).drew.cell 3), (hL2.cell (p := ⟨g, 4, none⟩) ((HB.out.alloc _).drew.lt)).trans ((HB.out.alloc _).drew.cell 4)⟩ : w2.cell? ⟨g, 2, none⟩ = some (.int .i64 3) ∧ w2.cell? ⟨g, 3, none⟩ = some (.int .i64 c) ∧ w2.cell? ⟨g, 4, none⟩ = some (.string d)))
  have HH := Lib.hid hHold; have HH2 := Lib.hid hHold2
  have HHd := Lib.hid (show W.drew.cell? ⟨g, 2, none⟩ = some (.int .i64 3) ∧ W.drew.cell? ⟨g, 3, none⟩ = some (.int .i64 c) ∧ W.drew.cell? ⟨g, 4, none⟩ = some (.string d) from hHold)
  have HH2d := Lib.hid (show (W.alloc (Obj.cells #[.int .i64 4096, .int .i64 c2, .int .i64 m] 3)).drew.cell? ⟨g, 2, none⟩ = some (.int .i64 3) ∧ (W.alloc (Obj.cells #[.int .i64 4096, .int .i64 c2, .int .i64 m] 3)).drew.cell? ⟨g, 3, none⟩ = some (.int .i64 c) ∧ (W.alloc (Obj.cells #[.int .i64 4096, .int .i64 c2, .int .i64 m] 3)).drew.cell? ⟨g, 4, none⟩ = some (.string d) from hHold2)
  clear hHold hHold2
  refine wp_region_noPanic ?_
  refine wp_region_held_drew (S := fun w' => w'.cell? ⟨g, 2, none⟩ = some (.int .i64 3) ∧ w'.cell? ⟨g, 3, none⟩ = some (.int .i64 c) ∧ w'.cell? ⟨g, 4, none⟩ = some (.string d)) (by kernel_rfl) ?_ (fun hHeld => ?_)
  · (try dsimp only); (first | with_reducible exact HH.out | with_reducible exact HH2.out | with_reducible exact HHd.out | with_reducible exact HH2d.out | exact HH3.out _ hL2)
  refine wpAnyH_take (i := 0) (v := ?_) rfl (by kernel_rfl) (by kernel_rfl) (by kernel_rfl) (fun _ _ _ h => h) (Or.inl ⟨by rfl, ?_⟩) (by assumption) ?_
  rotate_left
  · (intro w hSw; (try dsimp only at hSw); go_simp; (try with_reducible rfl))
  try simp only [Act.put, List.setIfInBounds_toArray, List.set_cons_zero, List.set_cons_succ]
  refine wpAnyH_take (i := 1) (v := ?_) rfl (by kernel_rfl) (by kernel_rfl) (by kernel_rfl) (fun _ _ _ h => h) (Or.inl ⟨by rfl, ?_⟩) (by assumption) ?_
  rotate_left
  · (intro w hSw; (try dsimp only at hSw); go_simp; (try with_reducible rfl))
  try simp only [Act.put, List.setIfInBounds_toArray, List.set_cons_zero, List.set_cons_succ]
  refine wpAnyH_take (i := 2) (v := ?_) rfl (by kernel_rfl) (by kernel_rfl) (by kernel_rfl) (fun _ _ _ h => h) (Or.inl ⟨by rfl, ?_⟩) (by assumption) ?_
  rotate_left
  · (intro w hSw; (try dsimp only at hSw); go_simp; (try with_reducible rfl))
  try simp only [Act.put, List.setIfInBounds_toArray, List.set_cons_zero, List.set_cons_succ]
  refine wpAnyH_take (i := 3) (v := ?_) rfl (by kernel_rfl) (by kernel_rfl) (by kernel_rfl) (fun _ _ _ h => h) (Or.inl ⟨by rfl, ?_⟩) (by assumption) ?_
  rotate_left
  · (intro w hSw; (try dsimp only at hSw); go_simp; (try with_reducible rfl))
  try simp only [Act.put, List.setIfInBounds_toArray, List.set_cons_zero, List.set_cons_succ]
  refine wpAnyH_take (i := 4) (v := ?_) rfl (by kernel_rfl) (by kernel_rfl) (by kernel_rfl) (fun _ _ _ h => h) (Or.inl ⟨by rfl, ?_⟩) (by assumption) ?_
  rotate_left
  · (intro w hSw; (try dsimp only at hSw); go_simp; (try with_reducible rfl))
  try simp only [Act.put, List.setIfInBounds_toArray, List.set_cons_zero, List.set_cons_succ]
  refine wpAnyH_take (i := 5) (v := ?_) rfl (by kernel_rfl) (by kernel_rfl) (by kernel_rfl) (fun _ _ _ h => h) (Or.inl ⟨by rfl, ?_⟩) (by assumption) ?_
  rotate_left
  · (intro w hSw; (try dsimp only at hSw); go_simp; (try with_reducible rfl))
  try simp only [Act.put, List.setIfInBounds_toArray, List.set_cons_zero, List.set_cons_succ]
  refine wpAnyH_take (i := 6) (v := ?_) rfl (by kernel_rfl) (by kernel_rfl) (by kernel_rfl) (fun _ _ _ h => h) (Or.inl ⟨by rfl, ?_⟩) (by assumption) ?_
  rotate_left
  · (intro w hSw; (try dsimp only at hSw); go_simp; (try with_reducible rfl))
  try simp only [Act.put, List.setIfInBounds_toArray, List.set_cons_zero, List.set_cons_succ]
  refine wpAnyH_take (i := 7) (v := ?_) rfl (by kernel_rfl) (by kernel_rfl) (by kernel_rfl) (fun _ _ _ h => h) (Or.inl ⟨by rfl, ?_⟩) (by assumption) ?_
  rotate_left
  · (intro w hSw; (try dsimp only at hSw); go_simp; (try with_reducible rfl))
  try simp only [Act.put, List.setIfInBounds_toArray, List.set_cons_zero, List.set_cons_succ]
  refine wpAnyH_take (i := 8) (v := ?_) rfl (by kernel_rfl) (by kernel_rfl) (by kernel_rfl) (fun _ _ _ h => h) (Or.inl ⟨by rfl, ?_⟩) (by assumption) ?_
  rotate_left
  · (intro w hSw; (try dsimp only at hSw); go_simp; (try with_reducible rfl))
  try simp only [Act.put, List.setIfInBounds_toArray, List.set_cons_zero, List.set_cons_succ]
  refine wpAnyH_take (i := 9) (v := ?_) rfl (by kernel_rfl) (by kernel_rfl) (by kernel_rfl) (fun _ _ _ h => h) (Or.inl ⟨by rfl, ?_⟩) (by assumption) ?_
  rotate_left
  · (intro w hSw; (try dsimp only at hSw); go_simp; (try with_reducible rfl))
  try simp only [Act.put, List.setIfInBounds_toArray, List.set_cons_zero, List.set_cons_succ]
  refine wpAnyH_take (i := 10) (v := ?_) rfl (by kernel_rfl) (by kernel_rfl) (by kernel_rfl) (fun _ _ _ h => h) (Or.inl ⟨by rfl, ?_⟩) (by assumption) ?_
  rotate_left
  · (intro w hSw; (try dsimp only at hSw); go_simp; (try with_reducible rfl))
  try simp only [Act.put, List.setIfInBounds_toArray, List.set_cons_zero, List.set_cons_succ]
  refine wpAnyH_take (i := 14) (v := ?_) rfl (by kernel_rfl) (by kernel_rfl) (by kernel_rfl) (fun _ _ _ h => h) (Or.inl ⟨by rfl, ?_⟩) (by assumption) ?_
  rotate_left
  · (intro w hSw; (try dsimp only at hSw); go_simp; (try with_reducible rfl))
  try simp only [Act.put, List.setIfInBounds_toArray, List.set_cons_zero, List.set_cons_succ]
  refine wpAnyH_take (i := 15) (v := ?_) rfl (by kernel_rfl) (by kernel_rfl) (by kernel_rfl) (fun _ _ _ h => h) (Or.inl ⟨by rfl, ?_⟩) (by assumption) ?_
  rotate_left
  · (intro w hSw; (try dsimp only at hSw); go_simp; (try with_reducible rfl))
  try simp only [Act.put, List.setIfInBounds_toArray, List.set_cons_zero, List.set_cons_succ]
  refine wpAnyH_ready (rs := [11]) (by kernel_rfl) (by simp) ?_
  refine AllReadyH.cons rfl (fun K hK => ?_) ?_
  · go_simp
    refine hK.out _ _ ?_ (fun hHeld => ?_)
    · (try dsimp only); (first | with_reducible exact HH.out | with_reducible exact HH2.out | with_reducible exact HHd.out | with_reducible exact HH2d.out | exact HH3.out _ hL2)
    clear hK K
    try simp only [Act.put, List.setIfInBounds_toArray, List.set_cons_zero, List.set_cons_succ]
    refine wpAnyH_ready (rs := [12]) (by kernel_rfl) (by simp) ?_
    refine AllReadyH.cons rfl (fun K hK => ?_) ?_
    · (go_simp; refine (HW.out _ _ (Blk.new W [.int .i64 4096, .int .i64 c2, .int .i64 m] 3).drew).mono ?_; rintro e w2 ⟨v, rfl, hR, hL2⟩; obtain ⟨va, vc, rfl⟩ := brow_form hR; have hcv := brow_string hR; rw [hX6] at hcv; go_wp2_with fail)
      refine hK.out _ _ ?_ (fun hHeld => ?_)
      · (try dsimp only); (first | with_reducible exact HH.out | with_reducible exact HH2.out | with_reducible exact HHd.out | with_reducible exact HH2d.out | exact HH3.out _ hL2)
      clear hK K
      try simp only [Act.put, List.setIfInBounds_toArray, List.set_cons_zero, List.set_cons_succ]
      refine wpAnyH_ready (rs := [13]) (by kernel_rfl) (by simp) ?_
      refine AllReadyH.cons rfl (fun K hK => ?_) ?_
      · go_simp
        refine hK.out _ _ ?_ (fun hHeld => ?_)
        · (try dsimp only); (first | with_reducible exact HH.out | with_reducible exact HH2.out | with_reducible exact HHd.out | with_reducible exact HH2d.out | exact HH3.out _ hL2)
        clear hK K
        try simp only [Act.put, List.setIfInBounds_toArray, List.set_cons_zero, List.set_cons_succ]
        refine heldTake (i := 16) (some 26) (v := ?_) rfl rfl (by kernel_rfl) (by kernel_rfl) (by kernel_rfl) (fun _ _ _ h => h) (by rfl) (by assumption) ?_ ?_
        rotate_left
        · (intro w hSw; (try dsimp only at hSw); go_simp; (try with_reducible rfl))
        try simp only [Act.put, List.setIfInBounds_toArray, List.set_cons_zero, List.set_cons_succ]
        refine heldTake (i := 17) (some 2) (v := ?_) rfl rfl (by kernel_rfl) (by kernel_rfl) (by kernel_rfl) (fun _ _ _ h => h) (by rfl) (by assumption) ?_ ?_
        rotate_left
        · (intro w hSw; (try dsimp only at hSw); go_simp; (try with_reducible rfl))
        try simp only [Act.put, List.setIfInBounds_toArray, List.set_cons_zero, List.set_cons_succ]
        refine wpAnyH_done (by kernel_rfl) ?_ _
        refine NoPanic.normal ?_
        go_wp2_with fail
        go_ret
        refine ⟨?_, HL.out.trans ((((Below.refl _ _).alloc (Nat.le_refl _) _).drew.trans (hL2.mono (by simp))).mono HL.out.size)⟩
        rw [HPL.out, ← HX.out]
        unfold strOf
        congr 2
      exact AllReadyH.nil
    exact AllReadyH.nil
  exact AllReadyH.nil
set_option maxHeartbeats 8000000 in
set_option maxRecDepth 100000 in
theorem pkPut_any (c : Nat) (d : ByteArray) (w : World) (hc : c < 1000) (h1 : 1 ≤ d.size) (h2 : d.size ≤ 1024) :
    Calls Tryz.prog 44 #[.agg (packetC c d).toArray] w fun e w' => e = .returned (.tuple #[strOf (packetL c d.data.toList), .int .i64 0]) ∧ Below w.heap.size w w' := by
  have HV := Lib.hid (fun W => pkValid_any c d W (by omega) h1 h2)
  have HE := Lib.hid (fun W => pkencoded_any c d W hc h1 h2)
  unfold packetC at HV HE ⊢
  have HL0 := Lib.hid ((Below.refl w.heap.size w).alloc (Nat.le_refl _) (Obj.cells (packetC c d).toArray 115))
  have HB0 := Lib.hid (Blk.new w (packetC c d) 115)
  unfold packetC at HL0 HB0
  go_enter Tryz.func44, Tryz.ntmps44
  go_wp2_with fail
  refine (HV.out _).mono ?_
  rintro e w1 ⟨rfl, hL1⟩
  have HL1 := Lib.hid (HL0.out.trans (hL1.mono HL0.out.size)); have HB1 := Lib.hid (HB0.out.below hL1 HB0.out.lt)
  clear hL1 HL0 HB0 HV
  have p0 := HB1.out.cell 0
  have p1 := HB1.out.cell 1
  have p2 := HB1.out.cell 2
  have p3 := HB1.out.cell 3
  have p4 := HB1.out.cell 4
  simp only [List.getElem?_cons_zero, List.getElem?_cons_succ] at p0 p1 p2 p3 p4
  go_wp2_with fail
  refine (HE.out _).mono ?_
  rintro e w2 ⟨rfl, hL2⟩
  have HL2 := Lib.hid (HL1.out.trans (hL2.mono HL1.out.size))
  clear hL2
  go_wp2_with fail
  go_ret2
  exact ⟨rfl, HL2.out⟩
end
end Go.Proofs.YtgopighmifpefaaGreatDoor
