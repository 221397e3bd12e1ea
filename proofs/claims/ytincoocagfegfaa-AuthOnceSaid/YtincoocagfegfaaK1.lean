/- What is proved here: walks of the keyed sum's inner functions: the rotation, a round. -/
import Derived.Test.YtincoocagfegfaaProg
import Derived.Test.YtincoocagfegfaaStill
import Derived.RegionTactic
import Derived.ChangeAlike
import Derived.BigRegion
import Derived.Deep.RegionWith
import Derived.Deep.RegionHeld3
import Derived.StillTailTactics
set_option linter.unusedVariables false
set_option linter.unusedSimpArgs false
namespace Go.Proofs.Ytincoocagfegfaa
open Go.RowKit

def rotl (x : BitVec 64) (k : Nat) : BitVec 64 := x <<< k ||| x >>> (64 - k)
theorem b63_13 : bits BinOp.and IntKind.u64 13 63 = 13 := by decide
theorem b63_16 : bits BinOp.and IntKind.u64 16 63 = 16 := by decide
theorem b63_17 : bits BinOp.and IntKind.u64 17 63 = 17 := by decide
theorem b63_21 : bits BinOp.and IntKind.u64 21 63 = 21 := by decide
theorem b63_32 : bits BinOp.and IntKind.u64 32 63 = 32 := by decide
attribute [go_sem] b63_13 b63_16 b63_17 b63_21 b63_32
set_option maxHeartbeats 400000 in
theorem rot13 (a : BitVec 64) (w : World) :
    Calls Try.prog 50 #[.int .u64 (w64 a), .int .i64 13] w fun e w' => e = .returned (.int .u64 (w64 (rotl a 13))) ∧ w = w' := by
  go_enter Try.func50, Try.ntmps50
  go_wp2
  go_ret
  exact ⟨rfl, rfl⟩
set_option maxHeartbeats 400000 in
theorem rot16 (a : BitVec 64) (w : World) :
    Calls Try.prog 50 #[.int .u64 (w64 a), .int .i64 16] w fun e w' => e = .returned (.int .u64 (w64 (rotl a 16))) ∧ w = w' := by
  go_enter Try.func50, Try.ntmps50
  go_wp2
  go_ret
  exact ⟨rfl, rfl⟩
set_option maxHeartbeats 400000 in
theorem rot17 (a : BitVec 64) (w : World) :
    Calls Try.prog 50 #[.int .u64 (w64 a), .int .i64 17] w fun e w' => e = .returned (.int .u64 (w64 (rotl a 17))) ∧ w = w' := by
  go_enter Try.func50, Try.ntmps50
  go_wp2
  go_ret
  exact ⟨rfl, rfl⟩
set_option maxHeartbeats 400000 in
theorem rot21 (a : BitVec 64) (w : World) :
    Calls Try.prog 50 #[.int .u64 (w64 a), .int .i64 21] w fun e w' => e = .returned (.int .u64 (w64 (rotl a 21))) ∧ w = w' := by
  go_enter Try.func50, Try.ntmps50
  go_wp2
  go_ret
  exact ⟨rfl, rfl⟩
set_option maxHeartbeats 400000 in
theorem rot32 (a : BitVec 64) (w : World) :
    Calls Try.prog 50 #[.int .u64 (w64 a), .int .i64 32] w fun e w' => e = .returned (.int .u64 (w64 (rotl a 32))) ∧ w = w' := by
  go_enter Try.func50, Try.ntmps50
  go_wp2
  go_ret
  exact ⟨rfl, rfl⟩

structure Four where
  (a b c d : BitVec 64)
def Four.round (x : Four) : Four :=
  let a := x.a + x.b
  let b := rotl x.b 13 ^^^ a
  let a := rotl a 32
  let c := x.c + x.d
  let d := rotl x.d 16 ^^^ c
  let a := a + d
  let d := rotl d 21 ^^^ a
  let c := c + b
  let b := rotl b 17 ^^^ c
  let c := rotl c 32
  ⟨a, b, c, d⟩
def vu (x : BitVec 64) : Value := .int .u64 (w64 x)

theorem four_facts {w : World} {b : Nat} {x0 x1 x2 x3 : BitVec 64} {l m : Value} {t : TypeId} (h : Blk w b [vu x0, vu x1, vu x2, vu x3, l, m] t) :
    w.cell? ⟨b, 0, none⟩ = some (.int .u64 (w64 x0)) ∧ w.cell? ⟨b, 1, none⟩ = some (.int .u64 (w64 x1)) ∧ w.cell? ⟨b, 2, none⟩ = some (.int .u64 (w64 x2)) ∧
    w.cell? ⟨b, 3, none⟩ = some (.int .u64 (w64 x3)) ∧ w.frozen? ⟨b, 0, none⟩ = false ∧ w.frozen? ⟨b, 1, none⟩ = false ∧ w.frozen? ⟨b, 2, none⟩ = false ∧ w.frozen? ⟨b, 3, none⟩ = false :=
  ⟨h.cell 0, h.cell 1, h.cell 2, h.cell 3, h.free 0, h.free 1, h.free 2, h.free 3⟩
set_option maxHeartbeats 1000000 in
theorem round_any (b : Nat) (x : Four) (l m : Value) (w : World) (h : Blk w b [vu x.a, vu x.b, vu x.c, vu x.d, l, m] 90) :
    Calls Try.prog 47 #[.pointer (some ⟨b, 0, none⟩)] w fun e w' => e = .returned (.tuple #[]) ∧ Keep [b] w w' ∧
      Blk w' b [vu x.round.a, vu x.round.b, vu x.round.c, vu x.round.d, l, m] 90 := by
  have K0 := Keep.refl [b] w
  obtain ⟨c0, c1, c2, c3, f0, f1, f2, f3⟩ := four_facts h
  have H0 := Lib.hid h; clear h
  go_enter Try.func47, Try.ntmps47
  go_wp2_with fail
  refine still_tail 11 (by kernel_rfl) (by kernel_rfl) ?_
  simp only [List.take_succ_cons, List.take_zero, List.drop_succ_cons, List.drop_zero]
  repeat still_step
  refine wpStill_nil ?_
  go_wp2_with fail
  refine gen_world (fun w' => Keep [b] w w' ∧ Blk w' b [vu (x.a + x.b), vu (x.b), vu (x.c), vu (x.d), l, m] 90) ⟨(K0.drew.setCell (.inl (by simp)) _), (H0.out.drew.set 0 _)⟩ ?_
  clear c0 c1 c2 c3 f0 f1 f2 f3 K0 H0
  rintro w1 ⟨K1, h⟩
  obtain ⟨c0, c1, c2, c3, f0, f1, f2, f3⟩ := four_facts h
  have H1 := Lib.hid h; clear h
  refine still_tail 13 (by kernel_rfl) (by kernel_rfl) ?_
  simp only [List.take_succ_cons, List.take_zero, List.drop_succ_cons, List.drop_zero]
  repeat still_step
  still_call (flip_same (rot13 _ _))
  repeat still_step
  refine wpStill_nil ?_
  go_wp2_with fail
  refine (rot32 _ _).mono ?_
  rintro e w9 ⟨rfl, rfl⟩
  go_wp2_with fail
  refine gen_world (fun w' => Keep [b] w w' ∧ Blk w' b [vu (rotl (x.a + x.b) 32), vu (rotl x.b 13 ^^^ (x.a + x.b)), vu (x.c), vu (x.d), l, m] 90) ⟨((K1.drew.setCell (.inl (by simp)) _).setCell (.inl (by simp)) _), ((H1.out.drew.set 1 _).set 0 _)⟩ ?_
  clear c0 c1 c2 c3 f0 f1 f2 f3 K1 H1
  rintro w2 ⟨K2, h⟩
  obtain ⟨c0, c1, c2, c3, f0, f1, f2, f3⟩ := four_facts h
  have H2 := Lib.hid h; clear h
  refine still_tail 11 (by kernel_rfl) (by kernel_rfl) ?_
  simp only [List.take_succ_cons, List.take_zero, List.drop_succ_cons, List.drop_zero]
  repeat still_step
  refine wpStill_nil ?_
  go_wp2_with fail
  refine gen_world (fun w' => Keep [b] w w' ∧ Blk w' b [vu (rotl (x.a + x.b) 32), vu (rotl x.b 13 ^^^ (x.a + x.b)), vu (x.c + x.d), vu (x.d), l, m] 90) ⟨(K2.drew.setCell (.inl (by simp)) _), (H2.out.drew.set 2 _)⟩ ?_
  clear c0 c1 c2 c3 f0 f1 f2 f3 K2 H2
  rintro w3 ⟨K3, h⟩
  obtain ⟨c0, c1, c2, c3, f0, f1, f2, f3⟩ := four_facts h
  have H3 := Lib.hid h; clear h
  refine still_tail 13 (by kernel_rfl) (by kernel_rfl) ?_
  simp only [List.take_succ_cons, List.take_zero, List.drop_succ_cons, List.drop_zero]
  repeat still_step
  still_call (flip_same (rot16 _ _))
  repeat still_step
  refine wpStill_nil ?_
  go_wp2_with fail
  refine gen_world (fun w' => Keep [b] w w' ∧ Blk w' b [vu (rotl (x.a + x.b) 32), vu (rotl x.b 13 ^^^ (x.a + x.b)), vu (x.c + x.d), vu (rotl x.d 16 ^^^ (x.c + x.d)), l, m] 90) ⟨(K3.drew.setCell (.inl (by simp)) _), (H3.out.drew.set 3 _)⟩ ?_
  clear c0 c1 c2 c3 f0 f1 f2 f3 K3 H3
  rintro w4 ⟨K4, h⟩
  obtain ⟨c0, c1, c2, c3, f0, f1, f2, f3⟩ := four_facts h
  have H4 := Lib.hid h; clear h
  refine still_tail 11 (by kernel_rfl) (by kernel_rfl) ?_
  simp only [List.take_succ_cons, List.take_zero, List.drop_succ_cons, List.drop_zero]
  repeat still_step
  refine wpStill_nil ?_
  go_wp2_with fail
  refine gen_world (fun w' => Keep [b] w w' ∧ Blk w' b [vu (rotl (x.a + x.b) 32 + (rotl x.d 16 ^^^ (x.c + x.d))), vu (rotl x.b 13 ^^^ (x.a + x.b)), vu (x.c + x.d), vu (rotl x.d 16 ^^^ (x.c + x.d)), l, m] 90) ⟨(K4.drew.setCell (.inl (by simp)) _), (H4.out.drew.set 0 _)⟩ ?_
  clear c0 c1 c2 c3 f0 f1 f2 f3 K4 H4
  rintro w5 ⟨K5, h⟩
  obtain ⟨c0, c1, c2, c3, f0, f1, f2, f3⟩ := four_facts h
  have H5 := Lib.hid h; clear h
  refine still_tail 13 (by kernel_rfl) (by kernel_rfl) ?_
  simp only [List.take_succ_cons, List.take_zero, List.drop_succ_cons, List.drop_zero]
  repeat still_step
  still_call (flip_same (rot21 _ _))
  repeat still_step
  refine wpStill_nil ?_
  go_wp2_with fail
  refine gen_world (fun w' => Keep [b] w w' ∧ Blk w' b [vu (rotl (x.a + x.b) 32 + (rotl x.d 16 ^^^ (x.c + x.d))), vu (rotl x.b 13 ^^^ (x.a + x.b)), vu (x.c + x.d), vu (rotl (rotl x.d 16 ^^^ (x.c + x.d)) 21 ^^^ (rotl (x.a + x.b) 32 + (rotl x.d 16 ^^^ (x.c + x.d)))), l, m] 90) ⟨(K5.drew.setCell (.inl (by simp)) _), (H5.out.drew.set 3 _)⟩ ?_
  clear c0 c1 c2 c3 f0 f1 f2 f3 K5 H5
  rintro w6 ⟨K6, h⟩
  obtain ⟨c0, c1, c2, c3, f0, f1, f2, f3⟩ := four_facts h
  have H6 := Lib.hid h; clear h
  refine still_tail 11 (by kernel_rfl) (by kernel_rfl) ?_
  simp only [List.take_succ_cons, List.take_zero, List.drop_succ_cons, List.drop_zero]
  repeat still_step
  refine wpStill_nil ?_
  go_wp2_with fail
  refine gen_world (fun w' => Keep [b] w w' ∧ Blk w' b [vu (rotl (x.a + x.b) 32 + (rotl x.d 16 ^^^ (x.c + x.d))), vu (rotl x.b 13 ^^^ (x.a + x.b)), vu ((x.c + x.d) + (rotl x.b 13 ^^^ (x.a + x.b))), vu (rotl (rotl x.d 16 ^^^ (x.c + x.d)) 21 ^^^ (rotl (x.a + x.b) 32 + (rotl x.d 16 ^^^ (x.c + x.d)))), l, m] 90) ⟨(K6.drew.setCell (.inl (by simp)) _), (H6.out.drew.set 2 _)⟩ ?_
  clear c0 c1 c2 c3 f0 f1 f2 f3 K6 H6
  rintro w7 ⟨K7, h⟩
  obtain ⟨c0, c1, c2, c3, f0, f1, f2, f3⟩ := four_facts h
  have H7 := Lib.hid h; clear h
  refine still_tail 13 (by kernel_rfl) (by kernel_rfl) ?_
  simp only [List.take_succ_cons, List.take_zero, List.drop_succ_cons, List.drop_zero]
  repeat still_step
  still_call (flip_same (rot17 _ _))
  repeat still_step
  refine wpStill_nil ?_
  go_wp2_with fail
  refine (rot32 _ _).mono ?_
  rintro e w9 ⟨rfl, rfl⟩
  go_wp2_with fail
  go_end0
  exact ⟨rfl, ((K7.drew.setCell (.inl (by simp)) _).setCell (.inl (by simp)) _), ((H7.out.drew.set 1 _).set 2 _)⟩
end Go.Proofs.Ytincoocagfegfaa
