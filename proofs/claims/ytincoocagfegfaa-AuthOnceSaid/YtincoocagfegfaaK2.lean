/- What is proved here: walks of the keyed sum's methods. -/
import Derived.Test.YtincoocagfegfaaK1
set_option linter.unusedVariables false
set_option linter.unusedSimpArgs false
namespace Go.Proofs.Ytincoocagfegfaa
open Go.RowKit
def Four.rounds : Nat → Four → Four
  | 0, x => x
  | n + 1, x => (Four.rounds n x).round
/-- The block of a sum. -/
def SumBlk (w : World) (b : Nat) (x : Four) (l m : Value) : Prop := Blk w b [vu x.a, vu x.b, vu x.c, vu x.d, l, m] 90
set_option maxHeartbeats 1000000 in
theorem times_any (b : Nat) (x : Four) (l m : Value) (n : Nat) (hn : n ≤ 100) (w : World) (h : SumBlk w b x l m) :
    Calls Try.prog 46 #[.int .i64 n, .func (Fn.func 47) #[.pointer (some ⟨b, 0, none⟩)] #[]] w fun e w' => e = .returned (.tuple #[]) ∧ Keep [b] w w' ∧
      SumBlk w' b (Four.rounds n x) l m := by
  have K0 := Keep.refl [b] w
  go_enter Try.func46, Try.ntmps46
  go_wp2_with fail
  go_loopw [5] (fun i wr => ∃ k : Nat, k ≤ n ∧ i = .int .i64 k ∧ Keep [b] w wr ∧ SumBlk wr b (Four.rounds k x) l m) (fun i _ => n - (intOf i).toNat)
  case atStart => exact ⟨0, Nat.zero_le _, rfl, K0, h⟩
  case round =>
    obtain ⟨k, hk, rfl, hK, hB⟩ := hrel
    by_cases hlt : k < n
    · go_wp2_with fail
      refine (round_any b (Four.rounds k x) l m _ hB).mono ?_
      rintro e w1 ⟨rfl, hK1, hB1⟩
      go_wp2_with fail
      go_roundw
      case rel => exact ⟨k + 1, by omega, by go_num, hK.trans hK1, hB1⟩
      case measure => simp [intOf]; omega
    · have : k = n := by omega
      subst this
      go_wp2_with fail
      go_end0
      exact ⟨rfl, hK, hB⟩
def Four.take (x : Four) (n : BitVec 64) : Four := let y := Four.rounds 2 ⟨x.a, x.b, x.c, x.d ^^^ n⟩; ⟨y.a ^^^ n, y.b, y.c, y.d⟩
set_option maxHeartbeats 1000000 in
theorem take_any (b : Nat) (x : Four) (l m : Value) (n : BitVec 64) (w : World) (h : SumBlk w b x l m) :
    Calls Try.prog 45 #[.pointer (some ⟨b, 0, none⟩), .int .u64 (w64 n)] w fun e w' => e = .returned (.tuple #[]) ∧ Keep [b] w w' ∧
      SumBlk w' b (x.take n) l m := by
  have K0 := Keep.refl [b] w
  obtain ⟨c0, c1, c2, c3, f0, f1, f2, f3⟩ := four_facts h
  have H0 := Lib.hid h; clear h
  go_enter Try.func45, Try.ntmps45
  go_wp2_with fail
  refine (times_any b ⟨x.a, x.b, x.c, x.d ^^^ n⟩ l m 2 (by omega) _ (H0.out.set 3 _)).mono ?_
  generalize hy : Four.rounds 2 ⟨x.a, x.b, x.c, x.d ^^^ n⟩ = y
  rintro e w1 ⟨rfl, hK1, hB1⟩
  have K1 := (K0.setCell (p := ⟨b, 3, none⟩) (.inl (by simp)) _).trans hK1
  clear c0 c1 c2 c3 f0 f1 f2 f3 hK1 K0
  obtain ⟨c0, c1, c2, c3, f0, f1, f2, f3⟩ := four_facts hB1
  have H1 := Lib.hid hB1; clear hB1
  have Hy := Lib.hid hy; clear hy
  go_wp2_with fail
  go_end0
  exact ⟨rfl, K1.setCell (.inl (by simp)) _, (by rw [Four.take, Hy.out]; exact H1.out.set 0 _)⟩
end Go.Proofs.Ytincoocagfegfaa
