/- What is proved here: walks of the keyed sum: its end. -/
import Derived.Test.YtincoocagfegfaaK3
import Derived.Deep.LoopGhost
set_option linter.unusedVariables false
set_option linter.unusedSimpArgs false
namespace Go.Proofs.Ytincoocagfegfaa
open Go.RowKit
theorem wrap_u8_nat (k : Nat) : IntKind.u8.wrap (k : Int) = ((UInt8.ofNat k).toNat : Int) := by
  simp [IntKind.wrap, IntKind.bits, IntKind.signed]
theorem xor255 (x : BitVec 64) : bits .xor .u64 (w64 x) 255 = w64 (x ^^^ 255#64) := w64_xor_lit x 255
attribute [local go_sem] xor255
theorem add_int (base b : Nat) (x : Four) (left : List UInt8) (many : Nat) (c : UInt8) (ci : Int) (w : World) (hci : ci = (c.toNat : Int)) (hl : left.length ≤ 7) (hm : many ≤ 9223372036854775806) (hbw : base ≤ w.heap.size) (h : Summing base w b x left many) :
    Calls Try.prog 40 #[.pointer (some ⟨b, 0, none⟩), .int .u8 ci] w fun e w' => e = .returned (.tuple #[]) ∧ Below base w w' ∧
      Summing base w' b (addS x left c).1 (addS x left c).2 (many + 1) := by
  subst hci; exact add_any base b x left many c w hl hm hbw h
def Four.all (x : Four) : BitVec 64 := x.a ^^^ x.b ^^^ x.c ^^^ x.d
/-- What the end makes of the words, of the bytes that are left, and of how many there were. -/
def sumEnd (x : Four) (left : List UInt8) (many : Nat) : BitVec 64 :=
  let y := x.take (numLE (left ++ List.replicate (7 - left.length) 0 ++ [UInt8.ofNat many]))
  (Four.rounds 4 ⟨y.a, y.b, y.c ^^^ 255#64, y.d⟩).all
set_option maxHeartbeats 2000000 in
theorem end_any (base b : Nat) (x : Four) (left : List UInt8) (many : Nat) (w : World) (hl : left.length ≤ 7) (hm : many ≤ 4611686018427387904) (hbw : base ≤ w.heap.size) (h : Summing base w b x left many) :
    Calls Try.prog 41 #[.pointer (some ⟨b, 0, none⟩)] w fun e w' => e = .returned (.int .u64 (w64 (sumEnd x left many))) ∧ Below base w w' := by
  obtain ⟨v, hB, hown⟩ := h.ex
  have c5 : w.cell? ⟨b, 5, none⟩ = some (.int .i64 many) := hB.cell 5
  have HH := Lib.hid h; clear h
  clear hB hown
  go_enter Try.func41, Try.ntmps41
  go_wp2_with fail
  clear c5
  go_loopg [] (7 - left.length) (fun k wr => ∃ j : Nat, k = 7 - left.length - j ∧ j ≤ 7 - left.length ∧ Below base w wr ∧ Summing base wr b x (left ++ List.replicate j 0) (many + j))
  case atStart => exact ⟨0, by omega, by omega, Below.refl _ _, by simpa using HH.out⟩
  case round =>
    obtain ⟨j, hk, hj, hL, hS⟩ := hrel
    have hbr : base ≤ wr.heap.size := Nat.le_trans hbw hL.size
    obtain ⟨v, hB, hown⟩ := hS.ex
    obtain ⟨va, vc, rfl⟩ := own_slice hown
    have c4 : wr.cell? ⟨b, 4, none⟩ = some (.slice va (left ++ List.replicate j 0).length vc) := hB.cell 4
    have hlen : (left ++ List.replicate j (0 : UInt8)).length = left.length + j := by simp
    rw [hlen] at c4; clear hlen
    have HS := Lib.hid hS; clear hS
    have HL := Lib.hid hL; clear hL
    have Hk := Lib.hid hk; clear hk
    clear hB hown v
    by_cases hlt : left.length + j < 7
    · go_wp2_with fail
      refine (add_any base b x (left ++ List.replicate j 0) (many + j) 0 _ (by simp; omega) (by omega) hbr HS.out).mono ?_
      rintro e w1 ⟨rfl, hL1, hS1⟩
      clear c4
      have HS1 := Lib.hid hS1; clear hS1
      go_wp2_with fail
      go_roundg (7 - left.length - (j + 1))
      case measure => have := Hk.out; omega
      case rel =>
        refine ⟨j + 1, rfl, by omega, HL.out.trans hL1, ?_⟩
        have := HS1.out
        rw [addS, if_neg (by simp; omega)] at this
        simpa [List.replicate_succ', Nat.add_assoc] using this
    · obtain rfl : j = 7 - left.length := by omega
      go_wp2_with fail
      have hj7 : left.length + (7 - left.length) = 7 := by omega
      refine (add_int base b x (left ++ List.replicate (7 - left.length) 0) (many + (7 - left.length)) (UInt8.ofNat many) _ _ (by simp) (by simp; omega) (by omega) hbr HS.out).mono ?_
      rintro e w1 ⟨rfl, hL1, hS1⟩
      rw [addS, if_pos (by simp; omega)] at hS1
      obtain ⟨v, hB, hown⟩ := hS1.ex
      clear hown hS1 c4
      have K1 := Lib.hid (HL.out.trans hL1)
      have hbr1 : base ≤ w1.heap.size := Nat.le_trans hbr hL1.size
      obtain ⟨y, hy⟩ : ∃ y, y = x.take (numLE (left ++ List.replicate (7 - left.length) 0 ++ [UInt8.ofNat many])) := ⟨_, rfl⟩
      rw [← hy] at hB
      obtain ⟨c0, c1, c2, c3, f0, f1, f2, f3⟩ := four_facts hB
      have HB := Lib.hid hB; clear hB
      have HY := Lib.hid hy; clear hy
      have Hj7 := Lib.hid hj7; clear hj7
      clear hL1
      go_wp2_with fail
      refine (times_any b ⟨y.a, y.b, y.c ^^^ 255#64, y.d⟩ _ _ 4 (by omega) _ (HB.out.set 2 _)).mono ?_
      obtain ⟨z, hz⟩ : ∃ z, z = Four.rounds 4 ⟨y.a, y.b, y.c ^^^ 255#64, y.d⟩ := ⟨_, rfl⟩
      rw [← hz]
      rintro e w2 ⟨rfl, hK2, hB2⟩
      clear c0 c1 c2 c3 f0 f1 f2 f3
      obtain ⟨c0, c1, c2, c3, f0, f1, f2, f3⟩ := four_facts hB2
      have HZ := Lib.hid hz; clear hz
      have HK2 := Lib.hid hK2; clear hK2
      clear hB2
      go_wp2_with fail
      go_quiet (fail)
      go_wp2_with fail
      go_ret
      have e1 : sumEnd x left many = z.all := by rw [HZ.out, HY.out]; rfl
      rw [e1]
      refine ⟨rfl, ?_⟩
      have K3 : Keep [b] w1 (w2.drewN nq) := (((Keep.refl _ w1).setCell (p := ⟨b, 2, none⟩) (.inl (by simp)) _).trans HK2.out).drewN nq
      exact K1.out.trans (K3.toBelowAt hbr1 (fun i hi => by simp at hi; have := HH.out.up; omega))
end Go.Proofs.Ytincoocagfegfaa
