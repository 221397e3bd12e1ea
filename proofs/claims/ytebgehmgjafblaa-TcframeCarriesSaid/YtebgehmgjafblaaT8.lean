/- What is proved here: Segments' refusals; the walk of the reference's Segments. -/
import Derived.Test.YtebgehmgjafblaaT7
set_option linter.unusedVariables false
set_option linter.unusedSimpArgs false
namespace Go.Proofs.Ytebgehmgjafblaa
open Go.RowKit
set_option maxHeartbeats 4000000 in
set_option maxRecDepth 100000 in
theorem Segments_bad (p : ByteArray) (most : Int) (w : World) (h : ¬ (1 ≤ p.size ∧ p.size ≤ 1030 ∧ 1 ≤ most ∧ most ≤ 199)) : Calls Try.prog 22 #[.string p, .int .i64 most] w fun e w' => e = .returned (.tuple #[.slice none 0 0, .int .i64 2]) ∧ w = w' := by
  by_cases h0 : 1 ≤ p.size
  case neg =>
    have he := empty_of p (by omega)
    have he2 := empty_eq p (by omega)
    clear h
    go_enter Try.func22, Try.ntmps22
    go_wp2_with fail
    go_ret2
    exact ⟨rfl, rfl⟩
  have he := not_empty_of p h0
  have he2 := not_empty_eq p h0
  by_cases h1 : p.size ≤ 1030
  case neg =>
    have d1 : decide (1030 < (p.size : Int)) = true := by simp; omega
    clear h
    go_enter Try.func22, Try.ntmps22
    go_wp2_with fail
    go_ret2
    exact ⟨rfl, rfl⟩
  have d1 : decide (1030 < (p.size : Int)) = false := by simp; omega
  by_cases h2 : 1 ≤ most
  case neg =>
    have d2 : decide (most < 1) = true := by simp; omega
    clear h
    go_enter Try.func22, Try.ntmps22
    go_wp2_with fail
    go_ret2
    exact ⟨rfl, rfl⟩
  have d2 : decide (most < 1) = false := by simp; omega
  have d3 : decide (199 < most) = true := by simp; omega
  clear h
  go_enter Try.func22, Try.ntmps22
  go_wp2_with fail
  go_ret2
  exact ⟨rfl, rfl⟩
set_option maxHeartbeats 4000000 in
set_option maxRecDepth 100000 in
theorem rSegments_bad (p : ByteArray) (most : Int) (w : World) (h : ¬ (1 ≤ p.size ∧ p.size ≤ 1030 ∧ 1 ≤ most ∧ most ≤ 199)) : Calls Try.prog 23 #[.string p, .int .i64 most] w fun e w' => e = .returned (.tuple #[.slice none 0 0, .int .i64 2]) ∧ w = w' := by
  by_cases h0 : 1 ≤ p.size
  case neg =>
    have he := empty_of p (by omega)
    have he2 := empty_eq p (by omega)
    clear h
    go_enter Try.func23, Try.ntmps23
    go_wp2_with fail
    go_ret2
    exact ⟨rfl, rfl⟩
  have he := not_empty_of p h0
  have he2 := not_empty_eq p h0
  by_cases h1 : p.size ≤ 1030
  case neg =>
    have d1 : decide (1030 < (p.size : Int)) = true := by simp; omega
    clear h
    go_enter Try.func23, Try.ntmps23
    go_wp2_with fail
    go_ret2
    exact ⟨rfl, rfl⟩
  have d1 : decide (1030 < (p.size : Int)) = false := by simp; omega
  by_cases h2 : 1 ≤ most
  case neg =>
    have d2 : decide (most < 1) = true := by simp; omega
    clear h
    go_enter Try.func23, Try.ntmps23
    go_wp2_with fail
    go_ret2
    exact ⟨rfl, rfl⟩
  have d2 : decide (most < 1) = false := by simp; omega
  have d3 : decide (199 < most) = true := by simp; omega
  clear h
  go_enter Try.func23, Try.ntmps23
  go_wp2_with fail
  go_ret2
  exact ⟨rfl, rfl⟩
theorem rseg_step (p : ByteArray) (most k a b : Nat) (fb : UInt8) (pt sc : ByteArray) (ha : a = k * most) (ha1 : (k + 1) * most = a + most) (hb : b = min (a + most) p.size) (hfb : fb = (if k = 0 then 64 else 0) ||| (if p.size ≤ a + most then 128 else 0)) (hpt : p.extract a b = pt) (hsc : sc = ⟨#[fb]⟩) : sc ++ pt = seg p most k := by
  unfold seg segFlag
  rw [hsc, ← hpt, hb, ha1, ← ha, hfb]
set_option maxHeartbeats 4000000 in
set_option maxRecDepth 100000 in
theorem rSegments_ok (p : ByteArray) (most : Nat) (w : World) (hp1 : 1 ≤ p.size) (hp2 : p.size ≤ 1030) (hm1 : 1 ≤ most) (hm2 : most ≤ 199) :
    Calls Try.prog 23 #[.string p, .int .i64 most] w fun e w' => ∃ v, e = .returned (.tuple #[v, .int .i64 0]) ∧ SRow w' w.heap.size v (segList p most (segN p.size most)) ∧ Below w.heap.size w w' := by
  obtain ⟨N, hN⟩ : ∃ N, N = segN p.size most := ⟨_, rfl⟩
  obtain ⟨n1, n2, n3⟩ := segN_spec p.size most hm1 hp1
  rw [← hN] at n1 n2 n3 ⊢
  clear hN
  have d1 : decide (1030 < (p.size : Int)) = false := by simp; omega
  have d2 : decide ((most : Int) < 1) = false := by simp; omega
  have d3 : decide (199 < (most : Int)) = false := by simp; omega
  have he := not_empty_of p hp1
  have he2 := not_empty_eq p hp1
  have hM := Lib.hid (And.intro n1 n2)
  have hN2 : N ≤ 1031 := by have := Nat.le_mul_of_pos_right (N - 1) (show 0 < most by omega); omega
  clear n1 n2
  go_enter Try.func23, Try.ntmps23
  go_wp2_with fail
  go_loopg [6, 7] N (fun m out at' wr => ∃ k a : Nat, k ≤ N ∧ m = N - k ∧ a = k * most ∧ at' = .int .i64 a ∧ Below w.heap.size w wr ∧ SRow wr w.heap.size out (segList p most k))
  case atStart => exact ⟨0, 0, by omega, by omega, by simp, rfl, Below.refl _ _, srow_nil _ _⟩
  case round =>
    obtain ⟨k, a, hk, hm, ha, rfl, hL, hR⟩ := hrel
    have HL := Lib.hid hL; have HR := Lib.hid hR; clear hL hR
    have ha1 : (k + 1) * most = a + most := by rw [Nat.succ_mul, ha]
    by_cases hlt : k < N
    · have hkn : k * most ≤ (N - 1) * most := Nat.mul_le_mul_right _ (by omega)
      have hM1 := hM.out.1
      have hap : a < p.size := by omega
      have hk0 : k = 0 ↔ a = 0 := by
        constructor
        · intro e; rw [ha, e]; simp
        · intro e
          rcases Nat.eq_zero_or_pos k with h | h
          · exact h
          · have := Nat.mul_pos h (show 0 < most by omega); omega
      have HA := Lib.hid ha; have HA1 := Lib.hid ha1
      clear ha ha1 hkn hM1
      by_cases hz : a = 0
      · rcases Nat.lt_trichotomy p.size (a + most) with htri | htri | htri
        · have hl : p.size ≤ a + most := by omega
          obtain ⟨fb, hfb⟩ : ∃ fb : UInt8, fb = 192 := ⟨_, rfl⟩
          have hlit : ((fb.toNat : Nat) : Int) = 192 := by rw [hfb]; rfl
          have HFB := Lib.hid (show fb = (if k = 0 then 64 else 0) ||| (if p.size ≤ a + most then 128 else 0) by rw [hfb, if_pos (hk0.2 hz), if_pos hl]; rfl)
          obtain ⟨sc, hsc⟩ : ∃ sc : ByteArray, sc = ⟨#[fb]⟩ := ⟨_, rfl⟩
          have hb3 : ∀ W : World, (convert 40 9 (.slice (some ⟨W.heap.size, 0, none⟩) 1 1)).run Try.prog (W.alloc (.cells #[.int .u8 192] 5)).drew = .ok (.string sc) (W.alloc (.cells #[.int .u8 192] 5)).drew := fun W => by
            rw [← hlit]
            have := run_string (w := (W.alloc (.cells #[.int .u8 (fb.toNat : Int)] 5)).drew) (base := W.heap.size) (v := .slice (some ⟨W.heap.size, 0, none⟩) 1 1) (xs := [fb]) (.inr ⟨W.heap.size, 1, _, _, rfl, Nat.le_refl _, (Blk.new W [.int .u8 (fb.toNat : Int)] 5).drew, .inl rfl, Nat.le_refl _, by decide, rfl, rfl⟩)
            rw [this, hsc]
          obtain ⟨b, hb⟩ : ∃ b, b = min (a + most) p.size := ⟨_, rfl⟩
          have HB := Lib.hid hb
          obtain ⟨pt, hpt⟩ : ∃ pt, p.extract a b = pt := ⟨_, rfl⟩
          have hpz : pt.size ≤ 1030 := by rw [← hpt]; simp; omega
          have hsz : sc.size ≤ 1 := by rw [hsc]; exact Nat.le_refl _
          have hcn : ¬ (9223372036854775807 < sc.size + pt.size) := by omega
          have hcn2 : ¬ (9223372036854775807 < (sc.size : Int) + (pt.size : Int)) := by omega
          have hab : a ≤ b := by omega
          have hbp : b ≤ p.size := by omega
          have HPT := Lib.hid hpt
          have hbe : b = p.size := by omega
          rw [hbe] at hpt
          have hownr := ownsRow_keep HR.out ((((Keep.refl [] wr).alloc (.cells #[.int .u8 192] 5)).alloc (.cells #[.string (sc ++ pt)] 9)).drew) (by simp)
          obtain ⟨i0, hi, hz0, hz1, hz2⟩ := info_parts info_str
          have hnews : ∀ j u, [Value.string (sc ++ pt)][j]? = some u → (((wr.alloc (.cells #[.int .u8 192] 5)).alloc (.cells #[.string (sc ++ pt)] 9)).drew).cell? ((⟨wr.heap.size + 1, 0, none⟩ : Addr).add j) = some u := by
            have hb := (Blk.new_at (wr.alloc (.cells #[.int .u8 192] 5)) [.string (sc ++ pt)] 9 (wr.heap.size + 1) (by simp)).drew
            exact World.news_of_block hb
          have hone : ∀ u ∈ [Value.string (sc ++ pt)], u.oneCell' = true := by intro u hu; simp at hu; subst hu; rfl
          have hk2 : (segList p most k).length = k := by simp [segList]
          have h63 : (segList p most k).length + 1 ≤ maxLen := by rw [hk2]; unfold maxLen; omega
          have hbytes : ((segList p most k).length + 1) * 16 ≤ 140737488355328 := by rw [hk2]; omega
          have hbase : w.heap.size ≤ (((wr.alloc (.cells #[.int .u8 192] 5)).alloc (.cells #[.string (sc ++ pt)] 9)).drew).heap.size := by have := HL.out.size; simp; omega
          have hHs : (((wr.alloc (.cells #[.int .u8 192] 5)).alloc (.cells #[.string (sc ++ pt)] 9)).drew).heap.size = wr.heap.size + 2 := by simp
          have HSC := Lib.hid hsc; clear hsc hlit hfb hb hk0
          have ea : ((a : Int) == 0) = true := by simp; omega
          have eb : decide ((p.size : Int) ≤ (a : Int) + (most : Int)) = true := by simp; omega
          have hmn : (p.size : Int) < (a : Int) + (most : Int) := by omega
        
          have hmn3 : (0 : Int) ≤ (a : Int) + (most : Int) := by omega
          have hmn4 : (a : Int) ≤ (a : Int) + (most : Int) := by omega
          have hmn5 : a ≤ a + most := by omega
          have hmn6 : (a : Int) ≤ (p.size : Int) := by omega
        
          have htn : ((a : Int) + (most : Int)).toNat = a + most := by omega
          have hif : (if (p.size : Int) < (a : Int) + (most : Int) then (p.size : Int) else (a : Int) + (most : Int)) = (p.size : Int) := if_pos hmn
          clear hz hl htri
          have hw1 : IntKind.i64.wrap ((a : Int) + (most : Int)) = (a : Int) + (most : Int) := IntWalk.i64_in _ (by omega)
          go_wp2_with fail
          go_region_law (refine step_append_lies _ rfl _ _ 43 rfl w.heap.size 9 i0 (.string .empty) 1 16 Try.underlying43 hi hz0 hz1 hz2 rfl (by omega) u6 (segList p most k).length ((segList p most k).map Value.string) rfl hownr ⟨wr.heap.size + 1, 0, none⟩ 1 1 [.string (sc ++ pt)] rfl rfl hnews hone (by omega) h63 hbytes hbase (wr.heap.size + 2) hHs (fun g cap w' h2 h3 h4 h5 => ?_))
          all_goals
            have hpc := rseg_step p most k a b fb pt sc HA.out HA1.out HB.out HFB.out HPT.out HSC.out
            have hlen : (segList p most (k + 1)).length = k + 1 := by simp [segList]
            have hR' : SRow w' w.heap.size (.slice (some ⟨g, 0, none⟩) (k + 1) cap) (segList p most (k + 1)) := by
              unfold SRow
              rw [hlen, segList_succ, List.map_append]
              rw [hpc, hk2] at h2
              exact h2
            have hL' : Below w.heap.size w w' := HL.out.trans ((((((Keep.refl (Value.ownBlock u6).toList wr).alloc _).alloc _).drew).trans (Keep.ofGrownV h3 (fun x hx => by rw [hx]; simp))).toBelowAt HL.out.size (fun x hx => by
              rw [Option.mem_toList] at hx
              rcases HR.out.2 with ⟨e1, _⟩ | ⟨g', cap', cur', e1, e2, _⟩
              · rw [e1] at hx; cases hx
              · rw [e1] at hx; injection hx with hx; subst hx; exact e2))
            have HR' := Lib.hid hR'; have HL' := Lib.hid hL'
            clear hR' hL' hpc h2 h3 h4 h5 hownr hnews hone hHs hbase hb3 hw1
            go_wp2_with fail
            go_roundg (N - (k + 1))
            case measure => omega
            case rel =>
              refine ⟨k + 1, a + most, by omega, rfl, HA1.out.symm, by go_num, HL'.out, ?_⟩
              exact HR'.out
        · have hl : p.size ≤ a + most := by omega
          obtain ⟨fb, hfb⟩ : ∃ fb : UInt8, fb = 192 := ⟨_, rfl⟩
          have hlit : ((fb.toNat : Nat) : Int) = 192 := by rw [hfb]; rfl
          have HFB := Lib.hid (show fb = (if k = 0 then 64 else 0) ||| (if p.size ≤ a + most then 128 else 0) by rw [hfb, if_pos (hk0.2 hz), if_pos hl]; rfl)
          obtain ⟨sc, hsc⟩ : ∃ sc : ByteArray, sc = ⟨#[fb]⟩ := ⟨_, rfl⟩
          have hb3 : ∀ W : World, (convert 40 9 (.slice (some ⟨W.heap.size, 0, none⟩) 1 1)).run Try.prog (W.alloc (.cells #[.int .u8 192] 5)).drew = .ok (.string sc) (W.alloc (.cells #[.int .u8 192] 5)).drew := fun W => by
            rw [← hlit]
            have := run_string (w := (W.alloc (.cells #[.int .u8 (fb.toNat : Int)] 5)).drew) (base := W.heap.size) (v := .slice (some ⟨W.heap.size, 0, none⟩) 1 1) (xs := [fb]) (.inr ⟨W.heap.size, 1, _, _, rfl, Nat.le_refl _, (Blk.new W [.int .u8 (fb.toNat : Int)] 5).drew, .inl rfl, Nat.le_refl _, by decide, rfl, rfl⟩)
            rw [this, hsc]
          obtain ⟨b, hb⟩ : ∃ b, b = min (a + most) p.size := ⟨_, rfl⟩
          have HB := Lib.hid hb
          obtain ⟨pt, hpt⟩ : ∃ pt, p.extract a b = pt := ⟨_, rfl⟩
          have hpz : pt.size ≤ 1030 := by rw [← hpt]; simp; omega
          have hsz : sc.size ≤ 1 := by rw [hsc]; exact Nat.le_refl _
          have hcn : ¬ (9223372036854775807 < sc.size + pt.size) := by omega
          have hcn2 : ¬ (9223372036854775807 < (sc.size : Int) + (pt.size : Int)) := by omega
          have hab : a ≤ b := by omega
          have hbp : b ≤ p.size := by omega
          have HPT := Lib.hid hpt
          have hbe : b = a + most := by omega
          rw [hbe] at hpt
          have hownr := ownsRow_keep HR.out ((((Keep.refl [] wr).alloc (.cells #[.int .u8 192] 5)).alloc (.cells #[.string (sc ++ pt)] 9)).drew) (by simp)
          obtain ⟨i0, hi, hz0, hz1, hz2⟩ := info_parts info_str
          have hnews : ∀ j u, [Value.string (sc ++ pt)][j]? = some u → (((wr.alloc (.cells #[.int .u8 192] 5)).alloc (.cells #[.string (sc ++ pt)] 9)).drew).cell? ((⟨wr.heap.size + 1, 0, none⟩ : Addr).add j) = some u := by
            have hb := (Blk.new_at (wr.alloc (.cells #[.int .u8 192] 5)) [.string (sc ++ pt)] 9 (wr.heap.size + 1) (by simp)).drew
            exact World.news_of_block hb
          have hone : ∀ u ∈ [Value.string (sc ++ pt)], u.oneCell' = true := by intro u hu; simp at hu; subst hu; rfl
          have hk2 : (segList p most k).length = k := by simp [segList]
          have h63 : (segList p most k).length + 1 ≤ maxLen := by rw [hk2]; unfold maxLen; omega
          have hbytes : ((segList p most k).length + 1) * 16 ≤ 140737488355328 := by rw [hk2]; omega
          have hbase : w.heap.size ≤ (((wr.alloc (.cells #[.int .u8 192] 5)).alloc (.cells #[.string (sc ++ pt)] 9)).drew).heap.size := by have := HL.out.size; simp; omega
          have hHs : (((wr.alloc (.cells #[.int .u8 192] 5)).alloc (.cells #[.string (sc ++ pt)] 9)).drew).heap.size = wr.heap.size + 2 := by simp
          have HSC := Lib.hid hsc; clear hsc hlit hfb hb hk0
          have ea : ((a : Int) == 0) = true := by simp; omega
          have eb : decide ((p.size : Int) ≤ (a : Int) + (most : Int)) = true := by simp; omega
          have hmn : ¬ ((p.size : Int) < (a : Int) + (most : Int)) := by omega
          have hmn2 : (a : Int) + (most : Int) ≤ (p.size : Int) := by omega
          have hmn3 : (0 : Int) ≤ (a : Int) + (most : Int) := by omega
          have hmn4 : (a : Int) ≤ (a : Int) + (most : Int) := by omega
          have hmn5 : a ≤ a + most := by omega
          have hmn6 : (a : Int) ≤ (p.size : Int) := by omega
          have hmn7 : a + most ≤ p.size := by omega
          have htn : ((a : Int) + (most : Int)).toNat = a + most := by omega
          have hif : (if (p.size : Int) < (a : Int) + (most : Int) then (p.size : Int) else (a : Int) + (most : Int)) = (a : Int) + (most : Int) := if_neg hmn
          clear hz hl htri
          have hw1 : IntKind.i64.wrap ((a : Int) + (most : Int)) = (a : Int) + (most : Int) := IntWalk.i64_in _ (by omega)
          go_wp2_with fail
          go_region_law (refine step_append_lies _ rfl _ _ 43 rfl w.heap.size 9 i0 (.string .empty) 1 16 Try.underlying43 hi hz0 hz1 hz2 rfl (by omega) u6 (segList p most k).length ((segList p most k).map Value.string) rfl hownr ⟨wr.heap.size + 1, 0, none⟩ 1 1 [.string (sc ++ pt)] rfl rfl hnews hone (by omega) h63 hbytes hbase (wr.heap.size + 2) hHs (fun g cap w' h2 h3 h4 h5 => ?_))
          all_goals
            have hpc := rseg_step p most k a b fb pt sc HA.out HA1.out HB.out HFB.out HPT.out HSC.out
            have hlen : (segList p most (k + 1)).length = k + 1 := by simp [segList]
            have hR' : SRow w' w.heap.size (.slice (some ⟨g, 0, none⟩) (k + 1) cap) (segList p most (k + 1)) := by
              unfold SRow
              rw [hlen, segList_succ, List.map_append]
              rw [hpc, hk2] at h2
              exact h2
            have hL' : Below w.heap.size w w' := HL.out.trans ((((((Keep.refl (Value.ownBlock u6).toList wr).alloc _).alloc _).drew).trans (Keep.ofGrownV h3 (fun x hx => by rw [hx]; simp))).toBelowAt HL.out.size (fun x hx => by
              rw [Option.mem_toList] at hx
              rcases HR.out.2 with ⟨e1, _⟩ | ⟨g', cap', cur', e1, e2, _⟩
              · rw [e1] at hx; cases hx
              · rw [e1] at hx; injection hx with hx; subst hx; exact e2))
            have HR' := Lib.hid hR'; have HL' := Lib.hid hL'
            clear hR' hL' hpc h2 h3 h4 h5 hownr hnews hone hHs hbase hb3 hw1
            go_wp2_with fail
            go_roundg (N - (k + 1))
            case measure => omega
            case rel =>
              refine ⟨k + 1, a + most, by omega, rfl, HA1.out.symm, by go_num, HL'.out, ?_⟩
              exact HR'.out
        · have hl : ¬ p.size ≤ a + most := by omega
          obtain ⟨fb, hfb⟩ : ∃ fb : UInt8, fb = 64 := ⟨_, rfl⟩
          have hlit : ((fb.toNat : Nat) : Int) = 64 := by rw [hfb]; rfl
          have HFB := Lib.hid (show fb = (if k = 0 then 64 else 0) ||| (if p.size ≤ a + most then 128 else 0) by rw [hfb, if_pos (hk0.2 hz), if_neg hl]; rfl)
          obtain ⟨sc, hsc⟩ : ∃ sc : ByteArray, sc = ⟨#[fb]⟩ := ⟨_, rfl⟩
          have hb3 : ∀ W : World, (convert 40 9 (.slice (some ⟨W.heap.size, 0, none⟩) 1 1)).run Try.prog (W.alloc (.cells #[.int .u8 64] 5)).drew = .ok (.string sc) (W.alloc (.cells #[.int .u8 64] 5)).drew := fun W => by
            rw [← hlit]
            have := run_string (w := (W.alloc (.cells #[.int .u8 (fb.toNat : Int)] 5)).drew) (base := W.heap.size) (v := .slice (some ⟨W.heap.size, 0, none⟩) 1 1) (xs := [fb]) (.inr ⟨W.heap.size, 1, _, _, rfl, Nat.le_refl _, (Blk.new W [.int .u8 (fb.toNat : Int)] 5).drew, .inl rfl, Nat.le_refl _, by decide, rfl, rfl⟩)
            rw [this, hsc]
          obtain ⟨b, hb⟩ : ∃ b, b = min (a + most) p.size := ⟨_, rfl⟩
          have HB := Lib.hid hb
          obtain ⟨pt, hpt⟩ : ∃ pt, p.extract a b = pt := ⟨_, rfl⟩
          have hpz : pt.size ≤ 1030 := by rw [← hpt]; simp; omega
          have hsz : sc.size ≤ 1 := by rw [hsc]; exact Nat.le_refl _
          have hcn : ¬ (9223372036854775807 < sc.size + pt.size) := by omega
          have hcn2 : ¬ (9223372036854775807 < (sc.size : Int) + (pt.size : Int)) := by omega
          have hab : a ≤ b := by omega
          have hbp : b ≤ p.size := by omega
          have HPT := Lib.hid hpt
          have hbe : b = a + most := by omega
          rw [hbe] at hpt
          have hownr := ownsRow_keep HR.out ((((Keep.refl [] wr).alloc (.cells #[.int .u8 64] 5)).alloc (.cells #[.string (sc ++ pt)] 9)).drew) (by simp)
          obtain ⟨i0, hi, hz0, hz1, hz2⟩ := info_parts info_str
          have hnews : ∀ j u, [Value.string (sc ++ pt)][j]? = some u → (((wr.alloc (.cells #[.int .u8 64] 5)).alloc (.cells #[.string (sc ++ pt)] 9)).drew).cell? ((⟨wr.heap.size + 1, 0, none⟩ : Addr).add j) = some u := by
            have hb := (Blk.new_at (wr.alloc (.cells #[.int .u8 64] 5)) [.string (sc ++ pt)] 9 (wr.heap.size + 1) (by simp)).drew
            exact World.news_of_block hb
          have hone : ∀ u ∈ [Value.string (sc ++ pt)], u.oneCell' = true := by intro u hu; simp at hu; subst hu; rfl
          have hk2 : (segList p most k).length = k := by simp [segList]
          have h63 : (segList p most k).length + 1 ≤ maxLen := by rw [hk2]; unfold maxLen; omega
          have hbytes : ((segList p most k).length + 1) * 16 ≤ 140737488355328 := by rw [hk2]; omega
          have hbase : w.heap.size ≤ (((wr.alloc (.cells #[.int .u8 64] 5)).alloc (.cells #[.string (sc ++ pt)] 9)).drew).heap.size := by have := HL.out.size; simp; omega
          have hHs : (((wr.alloc (.cells #[.int .u8 64] 5)).alloc (.cells #[.string (sc ++ pt)] 9)).drew).heap.size = wr.heap.size + 2 := by simp
          have HSC := Lib.hid hsc; clear hsc hlit hfb hb hk0
          have ea : ((a : Int) == 0) = true := by simp; omega
          have eb : decide ((p.size : Int) ≤ (a : Int) + (most : Int)) = false := by simp; omega
          have hmn : ¬ ((p.size : Int) < (a : Int) + (most : Int)) := by omega
          have hmn2 : (a : Int) + (most : Int) ≤ (p.size : Int) := by omega
          have hmn3 : (0 : Int) ≤ (a : Int) + (most : Int) := by omega
          have hmn4 : (a : Int) ≤ (a : Int) + (most : Int) := by omega
          have hmn5 : a ≤ a + most := by omega
          have hmn6 : (a : Int) ≤ (p.size : Int) := by omega
          have hmn7 : a + most ≤ p.size := by omega
          have htn : ((a : Int) + (most : Int)).toNat = a + most := by omega
          have hif : (if (p.size : Int) < (a : Int) + (most : Int) then (p.size : Int) else (a : Int) + (most : Int)) = (a : Int) + (most : Int) := if_neg hmn
          clear hz hl htri
          have hw1 : IntKind.i64.wrap ((a : Int) + (most : Int)) = (a : Int) + (most : Int) := IntWalk.i64_in _ (by omega)
          go_wp2_with fail
          go_region_law (refine step_append_lies _ rfl _ _ 43 rfl w.heap.size 9 i0 (.string .empty) 1 16 Try.underlying43 hi hz0 hz1 hz2 rfl (by omega) u6 (segList p most k).length ((segList p most k).map Value.string) rfl hownr ⟨wr.heap.size + 1, 0, none⟩ 1 1 [.string (sc ++ pt)] rfl rfl hnews hone (by omega) h63 hbytes hbase (wr.heap.size + 2) hHs (fun g cap w' h2 h3 h4 h5 => ?_))
          all_goals
            have hpc := rseg_step p most k a b fb pt sc HA.out HA1.out HB.out HFB.out HPT.out HSC.out
            have hlen : (segList p most (k + 1)).length = k + 1 := by simp [segList]
            have hR' : SRow w' w.heap.size (.slice (some ⟨g, 0, none⟩) (k + 1) cap) (segList p most (k + 1)) := by
              unfold SRow
              rw [hlen, segList_succ, List.map_append]
              rw [hpc, hk2] at h2
              exact h2
            have hL' : Below w.heap.size w w' := HL.out.trans ((((((Keep.refl (Value.ownBlock u6).toList wr).alloc _).alloc _).drew).trans (Keep.ofGrownV h3 (fun x hx => by rw [hx]; simp))).toBelowAt HL.out.size (fun x hx => by
              rw [Option.mem_toList] at hx
              rcases HR.out.2 with ⟨e1, _⟩ | ⟨g', cap', cur', e1, e2, _⟩
              · rw [e1] at hx; cases hx
              · rw [e1] at hx; injection hx with hx; subst hx; exact e2))
            have HR' := Lib.hid hR'; have HL' := Lib.hid hL'
            clear hR' hL' hpc h2 h3 h4 h5 hownr hnews hone hHs hbase hb3 hw1
            go_wp2_with fail
            go_roundg (N - (k + 1))
            case measure => omega
            case rel =>
              refine ⟨k + 1, a + most, by omega, rfl, HA1.out.symm, by go_num, HL'.out, ?_⟩
              exact HR'.out
      · rcases Nat.lt_trichotomy p.size (a + most) with htri | htri | htri
        · have hl : p.size ≤ a + most := by omega
          obtain ⟨fb, hfb⟩ : ∃ fb : UInt8, fb = 128 := ⟨_, rfl⟩
          have hlit : ((fb.toNat : Nat) : Int) = 128 := by rw [hfb]; rfl
          have HFB := Lib.hid (show fb = (if k = 0 then 64 else 0) ||| (if p.size ≤ a + most then 128 else 0) by rw [hfb, if_neg (fun e => hz (hk0.1 e)), if_pos hl]; rfl)
          obtain ⟨sc, hsc⟩ : ∃ sc : ByteArray, sc = ⟨#[fb]⟩ := ⟨_, rfl⟩
          have hb3 : ∀ W : World, (convert 40 9 (.slice (some ⟨W.heap.size, 0, none⟩) 1 1)).run Try.prog (W.alloc (.cells #[.int .u8 128] 5)).drew = .ok (.string sc) (W.alloc (.cells #[.int .u8 128] 5)).drew := fun W => by
            rw [← hlit]
            have := run_string (w := (W.alloc (.cells #[.int .u8 (fb.toNat : Int)] 5)).drew) (base := W.heap.size) (v := .slice (some ⟨W.heap.size, 0, none⟩) 1 1) (xs := [fb]) (.inr ⟨W.heap.size, 1, _, _, rfl, Nat.le_refl _, (Blk.new W [.int .u8 (fb.toNat : Int)] 5).drew, .inl rfl, Nat.le_refl _, by decide, rfl, rfl⟩)
            rw [this, hsc]
          obtain ⟨b, hb⟩ : ∃ b, b = min (a + most) p.size := ⟨_, rfl⟩
          have HB := Lib.hid hb
          obtain ⟨pt, hpt⟩ : ∃ pt, p.extract a b = pt := ⟨_, rfl⟩
          have hpz : pt.size ≤ 1030 := by rw [← hpt]; simp; omega
          have hsz : sc.size ≤ 1 := by rw [hsc]; exact Nat.le_refl _
          have hcn : ¬ (9223372036854775807 < sc.size + pt.size) := by omega
          have hcn2 : ¬ (9223372036854775807 < (sc.size : Int) + (pt.size : Int)) := by omega
          have hab : a ≤ b := by omega
          have hbp : b ≤ p.size := by omega
          have HPT := Lib.hid hpt
          have hbe : b = p.size := by omega
          rw [hbe] at hpt
          have hownr := ownsRow_keep HR.out ((((Keep.refl [] wr).alloc (.cells #[.int .u8 128] 5)).alloc (.cells #[.string (sc ++ pt)] 9)).drew) (by simp)
          obtain ⟨i0, hi, hz0, hz1, hz2⟩ := info_parts info_str
          have hnews : ∀ j u, [Value.string (sc ++ pt)][j]? = some u → (((wr.alloc (.cells #[.int .u8 128] 5)).alloc (.cells #[.string (sc ++ pt)] 9)).drew).cell? ((⟨wr.heap.size + 1, 0, none⟩ : Addr).add j) = some u := by
            have hb := (Blk.new_at (wr.alloc (.cells #[.int .u8 128] 5)) [.string (sc ++ pt)] 9 (wr.heap.size + 1) (by simp)).drew
            exact World.news_of_block hb
          have hone : ∀ u ∈ [Value.string (sc ++ pt)], u.oneCell' = true := by intro u hu; simp at hu; subst hu; rfl
          have hk2 : (segList p most k).length = k := by simp [segList]
          have h63 : (segList p most k).length + 1 ≤ maxLen := by rw [hk2]; unfold maxLen; omega
          have hbytes : ((segList p most k).length + 1) * 16 ≤ 140737488355328 := by rw [hk2]; omega
          have hbase : w.heap.size ≤ (((wr.alloc (.cells #[.int .u8 128] 5)).alloc (.cells #[.string (sc ++ pt)] 9)).drew).heap.size := by have := HL.out.size; simp; omega
          have hHs : (((wr.alloc (.cells #[.int .u8 128] 5)).alloc (.cells #[.string (sc ++ pt)] 9)).drew).heap.size = wr.heap.size + 2 := by simp
          have HSC := Lib.hid hsc; clear hsc hlit hfb hb hk0
          have ea : ((a : Int) == 0) = false := by simp; omega
          have eb : decide ((p.size : Int) ≤ (a : Int) + (most : Int)) = true := by simp; omega
          have hmn : (p.size : Int) < (a : Int) + (most : Int) := by omega
        
          have hmn3 : (0 : Int) ≤ (a : Int) + (most : Int) := by omega
          have hmn4 : (a : Int) ≤ (a : Int) + (most : Int) := by omega
          have hmn5 : a ≤ a + most := by omega
          have hmn6 : (a : Int) ≤ (p.size : Int) := by omega
        
          have htn : ((a : Int) + (most : Int)).toNat = a + most := by omega
          have hif : (if (p.size : Int) < (a : Int) + (most : Int) then (p.size : Int) else (a : Int) + (most : Int)) = (p.size : Int) := if_pos hmn
          clear hz hl htri
          have hw1 : IntKind.i64.wrap ((a : Int) + (most : Int)) = (a : Int) + (most : Int) := IntWalk.i64_in _ (by omega)
          go_wp2_with fail
          go_region_law (refine step_append_lies _ rfl _ _ 43 rfl w.heap.size 9 i0 (.string .empty) 1 16 Try.underlying43 hi hz0 hz1 hz2 rfl (by omega) u6 (segList p most k).length ((segList p most k).map Value.string) rfl hownr ⟨wr.heap.size + 1, 0, none⟩ 1 1 [.string (sc ++ pt)] rfl rfl hnews hone (by omega) h63 hbytes hbase (wr.heap.size + 2) hHs (fun g cap w' h2 h3 h4 h5 => ?_))
          all_goals
            have hpc := rseg_step p most k a b fb pt sc HA.out HA1.out HB.out HFB.out HPT.out HSC.out
            have hlen : (segList p most (k + 1)).length = k + 1 := by simp [segList]
            have hR' : SRow w' w.heap.size (.slice (some ⟨g, 0, none⟩) (k + 1) cap) (segList p most (k + 1)) := by
              unfold SRow
              rw [hlen, segList_succ, List.map_append]
              rw [hpc, hk2] at h2
              exact h2
            have hL' : Below w.heap.size w w' := HL.out.trans ((((((Keep.refl (Value.ownBlock u6).toList wr).alloc _).alloc _).drew).trans (Keep.ofGrownV h3 (fun x hx => by rw [hx]; simp))).toBelowAt HL.out.size (fun x hx => by
              rw [Option.mem_toList] at hx
              rcases HR.out.2 with ⟨e1, _⟩ | ⟨g', cap', cur', e1, e2, _⟩
              · rw [e1] at hx; cases hx
              · rw [e1] at hx; injection hx with hx; subst hx; exact e2))
            have HR' := Lib.hid hR'; have HL' := Lib.hid hL'
            clear hR' hL' hpc h2 h3 h4 h5 hownr hnews hone hHs hbase hb3 hw1
            go_wp2_with fail
            go_roundg (N - (k + 1))
            case measure => omega
            case rel =>
              refine ⟨k + 1, a + most, by omega, rfl, HA1.out.symm, by go_num, HL'.out, ?_⟩
              exact HR'.out
        · have hl : p.size ≤ a + most := by omega
          obtain ⟨fb, hfb⟩ : ∃ fb : UInt8, fb = 128 := ⟨_, rfl⟩
          have hlit : ((fb.toNat : Nat) : Int) = 128 := by rw [hfb]; rfl
          have HFB := Lib.hid (show fb = (if k = 0 then 64 else 0) ||| (if p.size ≤ a + most then 128 else 0) by rw [hfb, if_neg (fun e => hz (hk0.1 e)), if_pos hl]; rfl)
          obtain ⟨sc, hsc⟩ : ∃ sc : ByteArray, sc = ⟨#[fb]⟩ := ⟨_, rfl⟩
          have hb3 : ∀ W : World, (convert 40 9 (.slice (some ⟨W.heap.size, 0, none⟩) 1 1)).run Try.prog (W.alloc (.cells #[.int .u8 128] 5)).drew = .ok (.string sc) (W.alloc (.cells #[.int .u8 128] 5)).drew := fun W => by
            rw [← hlit]
            have := run_string (w := (W.alloc (.cells #[.int .u8 (fb.toNat : Int)] 5)).drew) (base := W.heap.size) (v := .slice (some ⟨W.heap.size, 0, none⟩) 1 1) (xs := [fb]) (.inr ⟨W.heap.size, 1, _, _, rfl, Nat.le_refl _, (Blk.new W [.int .u8 (fb.toNat : Int)] 5).drew, .inl rfl, Nat.le_refl _, by decide, rfl, rfl⟩)
            rw [this, hsc]
          obtain ⟨b, hb⟩ : ∃ b, b = min (a + most) p.size := ⟨_, rfl⟩
          have HB := Lib.hid hb
          obtain ⟨pt, hpt⟩ : ∃ pt, p.extract a b = pt := ⟨_, rfl⟩
          have hpz : pt.size ≤ 1030 := by rw [← hpt]; simp; omega
          have hsz : sc.size ≤ 1 := by rw [hsc]; exact Nat.le_refl _
          have hcn : ¬ (9223372036854775807 < sc.size + pt.size) := by omega
          have hcn2 : ¬ (9223372036854775807 < (sc.size : Int) + (pt.size : Int)) := by omega
          have hab : a ≤ b := by omega
          have hbp : b ≤ p.size := by omega
          have HPT := Lib.hid hpt
          have hbe : b = a + most := by omega
          rw [hbe] at hpt
          have hownr := ownsRow_keep HR.out ((((Keep.refl [] wr).alloc (.cells #[.int .u8 128] 5)).alloc (.cells #[.string (sc ++ pt)] 9)).drew) (by simp)
          obtain ⟨i0, hi, hz0, hz1, hz2⟩ := info_parts info_str
          have hnews : ∀ j u, [Value.string (sc ++ pt)][j]? = some u → (((wr.alloc (.cells #[.int .u8 128] 5)).alloc (.cells #[.string (sc ++ pt)] 9)).drew).cell? ((⟨wr.heap.size + 1, 0, none⟩ : Addr).add j) = some u := by
            have hb := (Blk.new_at (wr.alloc (.cells #[.int .u8 128] 5)) [.string (sc ++ pt)] 9 (wr.heap.size + 1) (by simp)).drew
            exact World.news_of_block hb
          have hone : ∀ u ∈ [Value.string (sc ++ pt)], u.oneCell' = true := by intro u hu; simp at hu; subst hu; rfl
          have hk2 : (segList p most k).length = k := by simp [segList]
          have h63 : (segList p most k).length + 1 ≤ maxLen := by rw [hk2]; unfold maxLen; omega
          have hbytes : ((segList p most k).length + 1) * 16 ≤ 140737488355328 := by rw [hk2]; omega
          have hbase : w.heap.size ≤ (((wr.alloc (.cells #[.int .u8 128] 5)).alloc (.cells #[.string (sc ++ pt)] 9)).drew).heap.size := by have := HL.out.size; simp; omega
          have hHs : (((wr.alloc (.cells #[.int .u8 128] 5)).alloc (.cells #[.string (sc ++ pt)] 9)).drew).heap.size = wr.heap.size + 2 := by simp
          have HSC := Lib.hid hsc; clear hsc hlit hfb hb hk0
          have ea : ((a : Int) == 0) = false := by simp; omega
          have eb : decide ((p.size : Int) ≤ (a : Int) + (most : Int)) = true := by simp; omega
          have hmn : ¬ ((p.size : Int) < (a : Int) + (most : Int)) := by omega
          have hmn2 : (a : Int) + (most : Int) ≤ (p.size : Int) := by omega
          have hmn3 : (0 : Int) ≤ (a : Int) + (most : Int) := by omega
          have hmn4 : (a : Int) ≤ (a : Int) + (most : Int) := by omega
          have hmn5 : a ≤ a + most := by omega
          have hmn6 : (a : Int) ≤ (p.size : Int) := by omega
          have hmn7 : a + most ≤ p.size := by omega
          have htn : ((a : Int) + (most : Int)).toNat = a + most := by omega
          have hif : (if (p.size : Int) < (a : Int) + (most : Int) then (p.size : Int) else (a : Int) + (most : Int)) = (a : Int) + (most : Int) := if_neg hmn
          clear hz hl htri
          have hw1 : IntKind.i64.wrap ((a : Int) + (most : Int)) = (a : Int) + (most : Int) := IntWalk.i64_in _ (by omega)
          go_wp2_with fail
          go_region_law (refine step_append_lies _ rfl _ _ 43 rfl w.heap.size 9 i0 (.string .empty) 1 16 Try.underlying43 hi hz0 hz1 hz2 rfl (by omega) u6 (segList p most k).length ((segList p most k).map Value.string) rfl hownr ⟨wr.heap.size + 1, 0, none⟩ 1 1 [.string (sc ++ pt)] rfl rfl hnews hone (by omega) h63 hbytes hbase (wr.heap.size + 2) hHs (fun g cap w' h2 h3 h4 h5 => ?_))
          all_goals
            have hpc := rseg_step p most k a b fb pt sc HA.out HA1.out HB.out HFB.out HPT.out HSC.out
            have hlen : (segList p most (k + 1)).length = k + 1 := by simp [segList]
            have hR' : SRow w' w.heap.size (.slice (some ⟨g, 0, none⟩) (k + 1) cap) (segList p most (k + 1)) := by
              unfold SRow
              rw [hlen, segList_succ, List.map_append]
              rw [hpc, hk2] at h2
              exact h2
            have hL' : Below w.heap.size w w' := HL.out.trans ((((((Keep.refl (Value.ownBlock u6).toList wr).alloc _).alloc _).drew).trans (Keep.ofGrownV h3 (fun x hx => by rw [hx]; simp))).toBelowAt HL.out.size (fun x hx => by
              rw [Option.mem_toList] at hx
              rcases HR.out.2 with ⟨e1, _⟩ | ⟨g', cap', cur', e1, e2, _⟩
              · rw [e1] at hx; cases hx
              · rw [e1] at hx; injection hx with hx; subst hx; exact e2))
            have HR' := Lib.hid hR'; have HL' := Lib.hid hL'
            clear hR' hL' hpc h2 h3 h4 h5 hownr hnews hone hHs hbase hb3 hw1
            go_wp2_with fail
            go_roundg (N - (k + 1))
            case measure => omega
            case rel =>
              refine ⟨k + 1, a + most, by omega, rfl, HA1.out.symm, by go_num, HL'.out, ?_⟩
              exact HR'.out
        · have hl : ¬ p.size ≤ a + most := by omega
          obtain ⟨fb, hfb⟩ : ∃ fb : UInt8, fb = 0 := ⟨_, rfl⟩
          have hlit : ((fb.toNat : Nat) : Int) = 0 := by rw [hfb]; rfl
          have HFB := Lib.hid (show fb = (if k = 0 then 64 else 0) ||| (if p.size ≤ a + most then 128 else 0) by rw [hfb, if_neg (fun e => hz (hk0.1 e)), if_neg hl]; rfl)
          obtain ⟨sc, hsc⟩ : ∃ sc : ByteArray, sc = ⟨#[fb]⟩ := ⟨_, rfl⟩
          have hb3 : ∀ W : World, (convert 40 9 (.slice (some ⟨W.heap.size, 0, none⟩) 1 1)).run Try.prog (W.alloc (.cells #[.int .u8 0] 5)).drew = .ok (.string sc) (W.alloc (.cells #[.int .u8 0] 5)).drew := fun W => by
            rw [← hlit]
            have := run_string (w := (W.alloc (.cells #[.int .u8 (fb.toNat : Int)] 5)).drew) (base := W.heap.size) (v := .slice (some ⟨W.heap.size, 0, none⟩) 1 1) (xs := [fb]) (.inr ⟨W.heap.size, 1, _, _, rfl, Nat.le_refl _, (Blk.new W [.int .u8 (fb.toNat : Int)] 5).drew, .inl rfl, Nat.le_refl _, by decide, rfl, rfl⟩)
            rw [this, hsc]
          obtain ⟨b, hb⟩ : ∃ b, b = min (a + most) p.size := ⟨_, rfl⟩
          have HB := Lib.hid hb
          obtain ⟨pt, hpt⟩ : ∃ pt, p.extract a b = pt := ⟨_, rfl⟩
          have hpz : pt.size ≤ 1030 := by rw [← hpt]; simp; omega
          have hsz : sc.size ≤ 1 := by rw [hsc]; exact Nat.le_refl _
          have hcn : ¬ (9223372036854775807 < sc.size + pt.size) := by omega
          have hcn2 : ¬ (9223372036854775807 < (sc.size : Int) + (pt.size : Int)) := by omega
          have hab : a ≤ b := by omega
          have hbp : b ≤ p.size := by omega
          have HPT := Lib.hid hpt
          have hbe : b = a + most := by omega
          rw [hbe] at hpt
          have hownr := ownsRow_keep HR.out ((((Keep.refl [] wr).alloc (.cells #[.int .u8 0] 5)).alloc (.cells #[.string (sc ++ pt)] 9)).drew) (by simp)
          obtain ⟨i0, hi, hz0, hz1, hz2⟩ := info_parts info_str
          have hnews : ∀ j u, [Value.string (sc ++ pt)][j]? = some u → (((wr.alloc (.cells #[.int .u8 0] 5)).alloc (.cells #[.string (sc ++ pt)] 9)).drew).cell? ((⟨wr.heap.size + 1, 0, none⟩ : Addr).add j) = some u := by
            have hb := (Blk.new_at (wr.alloc (.cells #[.int .u8 0] 5)) [.string (sc ++ pt)] 9 (wr.heap.size + 1) (by simp)).drew
            exact World.news_of_block hb
          have hone : ∀ u ∈ [Value.string (sc ++ pt)], u.oneCell' = true := by intro u hu; simp at hu; subst hu; rfl
          have hk2 : (segList p most k).length = k := by simp [segList]
          have h63 : (segList p most k).length + 1 ≤ maxLen := by rw [hk2]; unfold maxLen; omega
          have hbytes : ((segList p most k).length + 1) * 16 ≤ 140737488355328 := by rw [hk2]; omega
          have hbase : w.heap.size ≤ (((wr.alloc (.cells #[.int .u8 0] 5)).alloc (.cells #[.string (sc ++ pt)] 9)).drew).heap.size := by have := HL.out.size; simp; omega
          have hHs : (((wr.alloc (.cells #[.int .u8 0] 5)).alloc (.cells #[.string (sc ++ pt)] 9)).drew).heap.size = wr.heap.size + 2 := by simp
          have HSC := Lib.hid hsc; clear hsc hlit hfb hb hk0
          have ea : ((a : Int) == 0) = false := by simp; omega
          have eb : decide ((p.size : Int) ≤ (a : Int) + (most : Int)) = false := by simp; omega
          have hmn : ¬ ((p.size : Int) < (a : Int) + (most : Int)) := by omega
          have hmn2 : (a : Int) + (most : Int) ≤ (p.size : Int) := by omega
          have hmn3 : (0 : Int) ≤ (a : Int) + (most : Int) := by omega
          have hmn4 : (a : Int) ≤ (a : Int) + (most : Int) := by omega
          have hmn5 : a ≤ a + most := by omega
          have hmn6 : (a : Int) ≤ (p.size : Int) := by omega
          have hmn7 : a + most ≤ p.size := by omega
          have htn : ((a : Int) + (most : Int)).toNat = a + most := by omega
          have hif : (if (p.size : Int) < (a : Int) + (most : Int) then (p.size : Int) else (a : Int) + (most : Int)) = (a : Int) + (most : Int) := if_neg hmn
          clear hz hl htri
          have hw1 : IntKind.i64.wrap ((a : Int) + (most : Int)) = (a : Int) + (most : Int) := IntWalk.i64_in _ (by omega)
          go_wp2_with fail
          go_region_law (refine step_append_lies _ rfl _ _ 43 rfl w.heap.size 9 i0 (.string .empty) 1 16 Try.underlying43 hi hz0 hz1 hz2 rfl (by omega) u6 (segList p most k).length ((segList p most k).map Value.string) rfl hownr ⟨wr.heap.size + 1, 0, none⟩ 1 1 [.string (sc ++ pt)] rfl rfl hnews hone (by omega) h63 hbytes hbase (wr.heap.size + 2) hHs (fun g cap w' h2 h3 h4 h5 => ?_))
          all_goals
            have hpc := rseg_step p most k a b fb pt sc HA.out HA1.out HB.out HFB.out HPT.out HSC.out
            have hlen : (segList p most (k + 1)).length = k + 1 := by simp [segList]
            have hR' : SRow w' w.heap.size (.slice (some ⟨g, 0, none⟩) (k + 1) cap) (segList p most (k + 1)) := by
              unfold SRow
              rw [hlen, segList_succ, List.map_append]
              rw [hpc, hk2] at h2
              exact h2
            have hL' : Below w.heap.size w w' := HL.out.trans ((((((Keep.refl (Value.ownBlock u6).toList wr).alloc _).alloc _).drew).trans (Keep.ofGrownV h3 (fun x hx => by rw [hx]; simp))).toBelowAt HL.out.size (fun x hx => by
              rw [Option.mem_toList] at hx
              rcases HR.out.2 with ⟨e1, _⟩ | ⟨g', cap', cur', e1, e2, _⟩
              · rw [e1] at hx; cases hx
              · rw [e1] at hx; injection hx with hx; subst hx; exact e2))
            have HR' := Lib.hid hR'; have HL' := Lib.hid hL'
            clear hR' hL' hpc h2 h3 h4 h5 hownr hnews hone hHs hbase hb3 hw1
            go_wp2_with fail
            go_roundg (N - (k + 1))
            case measure => omega
            case rel =>
              refine ⟨k + 1, a + most, by omega, rfl, HA1.out.symm, by go_num, HL'.out, ?_⟩
              exact HR'.out
    · obtain rfl : k = N := by omega
      have hM2 := hM.out.2
      have hge : p.size ≤ a := by omega
      clear ha ha1 hM2
      go_wp2_with fail
      go_ret2
      exact ⟨_, rfl, HR.out, HL.out⟩
end Go.Proofs.Ytebgehmgjafblaa
