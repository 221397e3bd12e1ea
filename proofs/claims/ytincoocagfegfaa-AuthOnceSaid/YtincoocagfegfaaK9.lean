/- What is proved here: walks of the reference of the keyed sums: a rotation, a round. -/
import Derived.Test.YtincoocagfegfaaK8
set_option linter.unusedVariables false
set_option linter.unusedSimpArgs false
namespace Go.Proofs.Ytincoocagfegfaa
open Go.RowKit
set_option maxHeartbeats 400000 in
theorem left13 (a : BitVec 64) (w : World) :
    Calls Try.prog 38 #[.int .u64 (w64 a), .int .i64 13] w fun e w' => e = .returned (.int .u64 (w64 (rotl a 13))) ∧ w = w' := by
  go_enter Try.func38, Try.ntmps38
  go_wp2
  go_ret
  exact ⟨rfl, rfl⟩
set_option maxHeartbeats 400000 in
theorem left16 (a : BitVec 64) (w : World) :
    Calls Try.prog 38 #[.int .u64 (w64 a), .int .i64 16] w fun e w' => e = .returned (.int .u64 (w64 (rotl a 16))) ∧ w = w' := by
  go_enter Try.func38, Try.ntmps38
  go_wp2
  go_ret
  exact ⟨rfl, rfl⟩
set_option maxHeartbeats 400000 in
theorem left17 (a : BitVec 64) (w : World) :
    Calls Try.prog 38 #[.int .u64 (w64 a), .int .i64 17] w fun e w' => e = .returned (.int .u64 (w64 (rotl a 17))) ∧ w = w' := by
  go_enter Try.func38, Try.ntmps38
  go_wp2
  go_ret
  exact ⟨rfl, rfl⟩
set_option maxHeartbeats 400000 in
theorem left21 (a : BitVec 64) (w : World) :
    Calls Try.prog 38 #[.int .u64 (w64 a), .int .i64 21] w fun e w' => e = .returned (.int .u64 (w64 (rotl a 21))) ∧ w = w' := by
  go_enter Try.func38, Try.ntmps38
  go_wp2
  go_ret
  exact ⟨rfl, rfl⟩
set_option maxHeartbeats 400000 in
theorem left32 (a : BitVec 64) (w : World) :
    Calls Try.prog 38 #[.int .u64 (w64 a), .int .i64 32] w fun e w' => e = .returned (.int .u64 (w64 (rotl a 32))) ∧ w = w' := by
  go_enter Try.func38, Try.ntmps38
  go_wp2
  go_ret
  exact ⟨rfl, rfl⟩
theorem ref_facts {w : World} {b : Nat} {x0 x1 x2 x3 : BitVec 64} {t : TypeId} (h : Blk w b [vu x0, vu x1, vu x2, vu x3] t) :
    w.cell? ⟨b, 0, none⟩ = some (.int .u64 (w64 x0)) ∧ w.cell? ⟨b, 1, none⟩ = some (.int .u64 (w64 x1)) ∧ w.cell? ⟨b, 2, none⟩ = some (.int .u64 (w64 x2)) ∧
    w.cell? ⟨b, 3, none⟩ = some (.int .u64 (w64 x3)) ∧ w.frozen? ⟨b, 0, none⟩ = false ∧ w.frozen? ⟨b, 1, none⟩ = false ∧ w.frozen? ⟨b, 2, none⟩ = false ∧ w.frozen? ⟨b, 3, none⟩ = false :=
  ⟨h.cell 0, h.cell 1, h.cell 2, h.cell 3, h.free 0, h.free 1, h.free 2, h.free 3⟩
theorem shl_add_byte (x : BitVec 64) (c : UInt8) : x <<< 8 ||| z8 c = x <<< 8 + z8 c := by
  symm
  apply BitVec.add_eq_or_of_and_eq_zero
  apply BitVec.eq_of_getLsbD_eq
  intro i hi
  have hz : (z8 c).getLsbD i = (decide (i < 8) && (z8 c).getLsbD i) := by
    by_cases h : i < 8
    · simp [h]
    · simp only [h, decide_false, Bool.false_and]
      unfold z8
      have := c.toNat_lt
      simp only [BitVec.getLsbD_ofNat]
      rw [Nat.testBit_lt_two_pow (Nat.lt_of_lt_of_le this (Nat.pow_le_pow_right (by omega) (by omega : 8 ≤ i)))]
      simp
  rw [BitVec.getLsbD_and, BitVec.getLsbD_shiftLeft, hz]
  by_cases h : i < 8 <;> simp [h]
def v4 (x : Four) : Value := .agg #[vu x.a, vu x.b, vu x.c, vu x.d]
set_option maxHeartbeats 1000000 in
theorem ref_round (x : Four) (w : World) :
    Calls Try.prog 31 #[v4 x] w fun e w' => e = .returned (v4 x.round) ∧ Below w.heap.size w w' := by
  have hx : x.round = ⟨rotl (x.a + x.b) 32 + (rotl x.d 16 ^^^ (x.c + x.d)), rotl (rotl x.b 13 ^^^ (x.a + x.b)) 17 ^^^ ((x.c + x.d) + (rotl x.b 13 ^^^ (x.a + x.b))), rotl ((x.c + x.d) + (rotl x.b 13 ^^^ (x.a + x.b))) 32, rotl (rotl x.d 16 ^^^ (x.c + x.d)) 21 ^^^ (rotl (x.a + x.b) 32 + (rotl x.d 16 ^^^ (x.c + x.d)))⟩ := rfl
  have HX := Lib.hid hx; clear hx
  unfold v4 vu
  have K0 : Below w.heap.size w ((w.alloc (.cells #[.int .u64 (w64 (x.a + x.b)), .int .u64 (w64 x.b), .int .u64 (w64 x.c), .int .u64 (w64 x.d)] 73)).alloc (.cells #[.int .u64 0, .int .u64 0, .int .u64 0, .int .u64 0] 73)) :=
    ((Below.refl _ _).alloc (Nat.le_refl _) _).alloc (by simp) _
  have H0 : Blk ((w.alloc (.cells #[.int .u64 (w64 (x.a + x.b)), .int .u64 (w64 x.b), .int .u64 (w64 x.c), .int .u64 (w64 x.d)] 73)).alloc (.cells #[.int .u64 0, .int .u64 0, .int .u64 0, .int .u64 0] 73)) w.heap.size [vu (x.a + x.b), vu x.b, vu x.c, vu x.d] 73 :=
    (Blk.new w [vu (x.a + x.b), vu x.b, vu x.c, vu x.d] 73).alloc _
  have G0 : Blk ((w.alloc (.cells #[.int .u64 (w64 (x.a + x.b)), .int .u64 (w64 x.b), .int .u64 (w64 x.c), .int .u64 (w64 x.d)] 73)).alloc (.cells #[.int .u64 0, .int .u64 0, .int .u64 0, .int .u64 0] 73)) (w.heap.size + 1) [.int .u64 0, .int .u64 0, .int .u64 0, .int .u64 0] 73 :=
    Blk.new_at _ [.int .u64 0, .int .u64 0, .int .u64 0, .int .u64 0] _ _ (by simp)
  have H0 := Lib.hid H0
  have K0 := Lib.hid K0
  have G0 := Lib.hid G0
  go_enter Try.func31, Try.ntmps31
  go_wp2_with fail
  refine gen_world (fun w' => Below w.heap.size w w' ∧ Blk w' w.heap.size [vu (x.a + x.b), vu (x.b), vu (x.c), vu (x.d)] 73 ∧ Blk w' (w.heap.size + 1) [.int .u64 0, .int .u64 0, .int .u64 0, .int .u64 0] 73) ⟨K0.out, H0.out, G0.out⟩ ?_
  clear K0 H0 G0
  rintro w1 ⟨hk, h, hg⟩
  obtain ⟨c0, c1, c2, c3, f0, f1, f2, f3⟩ := ref_facts h
  have H1 := Lib.hid h; clear h
  have K1 := Lib.hid hk; clear hk
  have G1 := Lib.hid hg; clear hg
  refine still_tail 7 (by kernel_rfl) (by kernel_rfl) ?_
  simp only [List.take_succ_cons, List.take_zero, List.drop_succ_cons, List.drop_zero]
  repeat still_step
  still_call (flip_same (left13 _ _))
  repeat still_step
  refine wpStill_nil ?_
  go_wp2_with fail
  refine (left32 _ _).mono ?_
  rintro e w9 ⟨rfl, rfl⟩
  go_wp2_with fail
  refine gen_world (fun w' => Below w.heap.size w w' ∧ Blk w' w.heap.size [vu (rotl (x.a + x.b) 32), vu (rotl x.b 13 ^^^ (x.a + x.b)), vu (x.c + x.d), vu (x.d)] 73 ∧ Blk w' (w.heap.size + 1) [.int .u64 0, .int .u64 0, .int .u64 0, .int .u64 0] 73) ⟨(((K1.out.drew.setCell (Nat.le_refl _) _).setCell (Nat.le_refl _) _).setCell (Nat.le_refl _) _), (((H1.out.drew.set 1 _).set 0 _).set 2 _), (((G1.out.drew.set_far (by simp) _).set_far (by simp) _).set_far (by simp) _)⟩ ?_
  clear c0 c1 c2 c3 f0 f1 f2 f3
  clear K1 H1 G1
  rintro w2 ⟨hk, h, hg⟩
  obtain ⟨c0, c1, c2, c3, f0, f1, f2, f3⟩ := ref_facts h
  have H2 := Lib.hid h; clear h
  have K2 := Lib.hid hk; clear hk
  have G2 := Lib.hid hg; clear hg
  refine still_tail 7 (by kernel_rfl) (by kernel_rfl) ?_
  simp only [List.take_succ_cons, List.take_zero, List.drop_succ_cons, List.drop_zero]
  repeat still_step
  still_call (flip_same (left16 _ _))
  repeat still_step
  refine wpStill_nil ?_
  go_wp2_with fail
  refine gen_world (fun w' => Below w.heap.size w w' ∧ Blk w' w.heap.size [vu (rotl (x.a + x.b) 32 + (rotl x.d 16 ^^^ (x.c + x.d))), vu (rotl x.b 13 ^^^ (x.a + x.b)), vu (x.c + x.d), vu (rotl x.d 16 ^^^ (x.c + x.d))] 73 ∧ Blk w' (w.heap.size + 1) [.int .u64 0, .int .u64 0, .int .u64 0, .int .u64 0] 73) ⟨((K2.out.drew.setCell (Nat.le_refl _) _).setCell (Nat.le_refl _) _), ((H2.out.drew.set 3 _).set 0 _), ((G2.out.drew.set_far (by simp) _).set_far (by simp) _)⟩ ?_
  clear c0 c1 c2 c3 f0 f1 f2 f3
  clear K2 H2 G2
  rintro w3 ⟨hk, h, hg⟩
  obtain ⟨c0, c1, c2, c3, f0, f1, f2, f3⟩ := ref_facts h
  have H3 := Lib.hid h; clear h
  have K3 := Lib.hid hk; clear hk
  have G3 := Lib.hid hg; clear hg
  refine still_tail 7 (by kernel_rfl) (by kernel_rfl) ?_
  simp only [List.take_succ_cons, List.take_zero, List.drop_succ_cons, List.drop_zero]
  repeat still_step
  still_call (flip_same (left21 _ _))
  repeat still_step
  refine wpStill_nil ?_
  go_wp2_with fail
  refine gen_world (fun w' => Below w.heap.size w w' ∧ Blk w' w.heap.size [vu (rotl (x.a + x.b) 32 + (rotl x.d 16 ^^^ (x.c + x.d))), vu (rotl x.b 13 ^^^ (x.a + x.b)), vu ((x.c + x.d) + (rotl x.b 13 ^^^ (x.a + x.b))), vu (rotl (rotl x.d 16 ^^^ (x.c + x.d)) 21 ^^^ (rotl (x.a + x.b) 32 + (rotl x.d 16 ^^^ (x.c + x.d))))] 73 ∧ Blk w' (w.heap.size + 1) [.int .u64 0, .int .u64 0, .int .u64 0, .int .u64 0] 73) ⟨((K3.out.drew.setCell (Nat.le_refl _) _).setCell (Nat.le_refl _) _), ((H3.out.drew.set 3 _).set 2 _), ((G3.out.drew.set_far (by simp) _).set_far (by simp) _)⟩ ?_
  clear c0 c1 c2 c3 f0 f1 f2 f3
  clear K3 H3 G3
  rintro w4 ⟨hk, h, hg⟩
  obtain ⟨c0, c1, c2, c3, f0, f1, f2, f3⟩ := ref_facts h
  have H4 := Lib.hid h; clear h
  have K4 := Lib.hid hk; clear hk
  have G4 := Lib.hid hg; clear hg
  obtain ⟨u0, u1, u2, u3, hu⟩ : ∃ u0 u1 u2 u3 : Value, w4.cell? ⟨w.heap.size + 1, 0, none⟩ = some u0 ∧ w4.cell? ⟨w.heap.size + 1, 1, none⟩ = some u1 ∧ w4.cell? ⟨w.heap.size + 1, 2, none⟩ = some u2 ∧ w4.cell? ⟨w.heap.size + 1, 3, none⟩ = some u3 := ⟨_, _, _, _, G4.out.cell 0, G4.out.cell 1, G4.out.cell 2, G4.out.cell 3⟩
  obtain ⟨d0, d1, d2, d3⟩ := hu
  have q0 : w4.frozen? ⟨w.heap.size + 1, 0, none⟩ = false := G4.out.free 0
  have q1 : w4.frozen? ⟨w.heap.size + 1, 1, none⟩ = false := G4.out.free 1
  have q2 : w4.frozen? ⟨w.heap.size + 1, 2, none⟩ = false := G4.out.free 2
  have q3 : w4.frozen? ⟨w.heap.size + 1, 3, none⟩ = false := G4.out.free 3
  refine still_tail 7 (by kernel_rfl) (by kernel_rfl) ?_
  simp only [List.take_succ_cons, List.take_zero, List.drop_succ_cons, List.drop_zero]
  repeat still_step
  still_call (flip_same (left17 _ _))
  repeat still_step
  refine wpStill_nil ?_
  go_wp2_with fail
  refine (left32 _ _).mono ?_
  rintro e w9 ⟨rfl, rfl⟩
  go_wp2_with fail
  refine bodyPost_ret (v := .agg #[.int .u64 (w64 (rotl (x.a + x.b) 32 + (rotl x.d 16 ^^^ (x.c + x.d)))), .int .u64 (w64 (rotl (rotl x.b 13 ^^^ (x.a + x.b)) 17 ^^^ ((x.c + x.d) + (rotl x.b 13 ^^^ (x.a + x.b))))), .int .u64 (w64 (rotl ((x.c + x.d) + (rotl x.b 13 ^^^ (x.a + x.b))) 32)), .int .u64 (w64 (rotl (rotl x.d 16 ^^^ (x.c + x.d)) 21 ^^^ (rotl (x.a + x.b) 32 + (rotl x.d 16 ^^^ (x.c + x.d)))))]) (by simp [results, Try.results31, go_sem, d0, d1, d2, d3]) rfl ⟨by rw [HX.out], ?_⟩
  exact ((((((K4.out.setCell (Nat.le_refl _) _).setCell (Nat.le_refl _) _).setCell (Nat.le_succ _) _).setCell (Nat.le_succ _) _).setCell (Nat.le_succ _) _).setCell (Nat.le_succ _) _).drew
set_option maxHeartbeats 1000000 in
theorem ref_number (s : ByteArray) (w : World) (hs : s.size = 8) :
    Calls Try.prog 30 #[.string s] w fun e w' => e = .returned (.int .u64 (w64 (numLE s.data.toList))) ∧ w = w' := by
  have hs1 : s.size ≤ 8 := by omega
  have hs2 : 8 ≤ s.size := by omega
  have hn : numLE (s.data.toList.drop 8) = 0#64 := by rw [List.drop_eq_nil_of_le (by simp; omega)]; rfl
  have Hs := Lib.hid hs; clear hs
  have Hn := Lib.hid hn; clear hn
  go_enter Try.func30, Try.ntmps30
  go_wp2_with fail
  go_loop [3, 4] (fun n i => ∃ k : Nat, k ≤ 8 ∧ i = .int .i64 ((k : Int) - 1) ∧ n = .int .u64 (w64 (numLE (s.data.toList.drop k)))) (fun _ i => (intOf i + 1).toNat)
  case atStart => exact ⟨8, Nat.le_refl _, rfl, by rw [Hn.out]; rfl⟩
  case round =>
    obtain ⟨k, hk, rfl, rfl⟩ := hrel
    by_cases hlt : 0 < k
    · obtain ⟨j, rfl⟩ : ∃ j, k = j + 1 := ⟨k - 1, by omega⟩
      have HS := Lib.hid (numLE_drop s.data.toList j (by simp; omega))
      go_wp2_with fail
      go_round
      case rel => exact ⟨j, by omega, rfl, by rw [HS.out, shl_add_byte]; rfl⟩
      case measure => simp [intOf]
    · obtain rfl : k = 0 := by omega
      go_wp2_with fail
      go_ret
      exact ⟨by simp, rfl⟩
end Go.Proofs.Ytincoocagfegfaa
