/- What is proved here: the walk of the reference of the keyed sums: Sum. -/
import Derived.Test.YtincoocagfegfaaK9
import Derived.Deep.QuietTactic
import Derived.BigQuiet
set_option linter.unusedVariables false
set_option linter.unusedSimpArgs false
namespace Go.Proofs.Ytincoocagfegfaa
open Go.RowKit
def chunkN : Nat → Four → List UInt8 → Four
  | 0, x, _ => x
  | n + 1, x, l => chunkN n (x.take (numLE (l.take 8))) (l.drop 8)
theorem chunkN_succ : ∀ (n : Nat) (x : Four) (l : List UInt8), chunkN (n + 1) x l = (chunkN n x l).take (numLE ((l.drop (8 * n)).take 8))
  | 0, x, l => by simp [chunkN]
  | n + 1, x, l => by
    rw [chunkN, chunkN_succ n, chunkN, List.drop_drop]
    rw [show 8 + 8 * n = 8 * (n + 1) by omega]
def padded (b : List UInt8) : List UInt8 := b ++ List.replicate (7 - b.length % 8) 0 ++ [UInt8.ofNat (b.length % 256)]
theorem padded_length (b : List UInt8) : (padded b).length = 8 * (b.length / 8 + 1) := by
  simp [padded]; omega
def refSum (key b : List UInt8) : BitVec 64 :=
  let y := chunkN (b.length / 8 + 1) (Four.begin key) (padded b)
  (Four.rounds 4 ⟨y.a, y.b, y.c ^^^ 255#64, y.d⟩).all
attribute [local go_sem] xork1 xork2 xork3 xork4 xor255
set_option maxHeartbeats 2000000 in
theorem rSum_bad (key b : ByteArray) (w : World) (hk : key.size ≠ 16) :
    Calls Try.prog 18 #[.string key, .string b] w fun e w' => e = .returned (.tuple #[.int .u64 0, .int .i64 2]) ∧ Below w.heap.size w w' := by
  have h1 : ((key.size : Int) != 16) = true := by rw [bne_iff_ne]; omega
  clear hk
  go_enter Try.func18, Try.ntmps18
  go_wp2_with fail
  go_ret2
  exact ⟨rfl, Below.refl _ _⟩
set_option maxHeartbeats 2000000 in
theorem rSum_ok (key b : ByteArray) (w : World) (hk : key.size = 16) (hb : b.size ≤ 1000000000) :
    Calls Try.prog 18 #[.string key, .string b] w fun e w' => e = .returned (.tuple #[.int .u64 (w64 (refSum key.data.toList b.data.toList)), .int .i64 0]) ∧ Below w.heap.size w w' := by
  have h1 : ((key.size : Int) != 16) = false := by rw [hk]; rfl
  have h2 : key.size ≤ 16 := by omega
  have h3 : 16 ≤ key.size := by omega
  have Hk := Lib.hid hk; clear hk
  go_enter Try.func18, Try.ntmps18
  go_wp2_with fail
  go_quiet ((go_at_call 30; exact quiet_lft (ref_number _ _ (by simp <;> omega))))
  have hx : Four.begin key.data.toList = ⟨numLE (key.extract 0 8).data.toList ^^^ 8317987319222330741#64, numLE (key.extract 8 key.size).data.toList ^^^ 7237128888997146477#64, numLE (key.extract 0 8).data.toList ^^^ 7816392313619706465#64, numLE (key.extract 8 key.size).data.toList ^^^ 8387220255154660723#64⟩ := by
    rw [show (key.extract 0 8).data.toList = key.data.toList.take 8 by simp, show (key.extract 8 key.size).data.toList = key.data.toList.drop 8 by simp; rw [List.take_of_length_le (by simp)]]; rfl
  generalize numLE (key.extract 0 8).data.toList = k1 at hx ⊢
  generalize numLE (key.extract 8 key.size).data.toList = k2 at hx ⊢
  have Hx := Lib.hid hx; clear hx
  obtain ⟨hL0, hs0⟩ := below_quiet w nq
  generalize w.drewN nq = w0 at hL0 hs0 ⊢
  have HL0 := Lib.hid hL0; clear hL0
  have HS0 := Lib.hid hs0; clear hs0
  go_wp2_with fail
  obtain ⟨x0, hx0⟩ : ∃ x0, x0 = Four.begin key.data.toList := ⟨_, rfl⟩
  refine gen_world (fun w' => Below w.heap.size w w' ∧ Blk w' w0.heap.size [vu x0.a, vu x0.b, vu x0.c, vu x0.d] 73) ⟨HL0.out.alloc (by rw [HS0.out]; exact Nat.le_refl _) _, by rw [hx0, Hx.out]; exact Blk.new w0 [_, _, _, _] _⟩ ?_
  rintro w1 ⟨hL1, hB1⟩
  have HX0 := Lib.hid hx0; clear hx0
  have HL1 := Lib.hid hL1; clear hL1
  have HB1 := Lib.hid hB1; clear hB1
  obtain ⟨z0, hz0⟩ : ∃ z0, z0 = 7 - b.data.toList.length % 8 := ⟨_, rfl⟩
  have hz0' : b.size % 8 + z0 = 7 := by rw [hz0]; simp; omega
  go_loopg [1] z0 (fun k s wr => ∃ z : Nat, k = z0 - z ∧ z ≤ z0 ∧ wr = w1 ∧ s = strOf (b.data.toList ++ List.replicate z 0))
  case atStart => exact ⟨0, by omega, by omega, rfl, by simp [str_of]⟩
  case round =>
    obtain ⟨z, hk, hz, rfl, rfl⟩ := hrel
    obtain ⟨l, hl⟩ : ∃ l, l = b.data.toList ++ List.replicate z (0 : UInt8) := ⟨_, rfl⟩
    have hll : l.length = b.size + z := by rw [hl]; simp
    have hll2 : l.length ≤ b.size + 7 := by omega
    rw [← hl]
    have Hl := Lib.hid hl; clear hl
    have Hk := Lib.hid hk; clear hk
    have Hz0 := Lib.hid hz0; clear hz0
    unfold strOf
    by_cases hlt : z < z0
    · have ht : ((l.length : Int) % 8 != 7) = true := by rw [bne_iff_ne]; omega
      have Hll := Lib.hid hll; clear hll
      have Hz0' := Lib.hid hz0'; clear hz0'
      go_wp2_with fail
      go_roundg (z0 - (z + 1))
      case measure => have := Hk.out; omega
      case rel => exact ⟨z + 1, rfl, by omega, rfl, by rw [str_append]; simp [Hl.out, List.replicate_succ']⟩
    · obtain rfl : z = z0 := by omega
      have ht : ((l.length : Int) % 8 != 7) = false := by rw [bne_eq_false_iff_eq]; omega
      obtain ⟨c, hc⟩ : ∃ c, c = UInt8.ofNat (b.size % 256) := ⟨_, rfl⟩
      have hcv := byte_string wr (↑b.size % 256) c (by rw [hc]; simp)
      obtain ⟨p, hp⟩ : ∃ p, p = padded b.data.toList := ⟨_, rfl⟩
      have hpl : l ++ [c] = p := by rw [hp, padded, Hl.out, hc, Hz0.out]; simp
      have hlen : p.length = 8 * (b.data.toList.length / 8 + 1) := by rw [hp, padded_length]
      obtain ⟨n, hn⟩ : ∃ n, n = b.data.toList.length / 8 + 1 := ⟨_, rfl⟩
      rw [← hn] at hlen
      have hn2 : n ≤ b.size / 8 + 1 := by rw [hn]; simp
      have happ : ({ data := l.toArray } ++ { data := #[c] } : ByteArray) = ⟨p.toArray⟩ := by
        rw [← hpl]
        apply ByteArray.ext
        simp
      have Hp := Lib.hid hp; clear hp
      have Hpl := Lib.hid hpl; clear hpl
      have Hlen := Lib.hid hlen; clear hlen
      have Hn := Lib.hid hn; clear hn
      have Hc := Lib.hid hc; clear hc
      have Hll := Lib.hid hll; clear hll
      have Hz0' := Lib.hid hz0'; clear hz0'
      go_wp2_with fail
      refine gen_world (fun w' => Below w.heap.size w w' ∧ Blk w' w0.heap.size [vu x0.a, vu x0.b, vu x0.c, vu x0.d] 73) ⟨HL1.out.alloc HL1.out.size _, HB1.out.alloc _⟩ ?_
      clear HL1 HB1 hcv happ ht
      rintro w2 ⟨hL2, hB2⟩
      have HL2 := Lib.hid hL2; clear hL2
      have HB2 := Lib.hid hB2; clear hB2
      go_loopw [10] (fun i wr => ∃ j : Nat, j ≤ n ∧ i = .int .i64 (8 * (j : Int)) ∧ Below w.heap.size w wr ∧ Blk wr w0.heap.size [vu (chunkN j x0 p).a, vu (chunkN j x0 p).b, vu (chunkN j x0 p).c, vu (chunkN j x0 p).d] 73) (fun i _ => (8 * (n : Int) - intOf i).toNat)
      case atStart => exact ⟨0, Nat.zero_le _, rfl, HL2.out, HB2.out⟩
      case round =>
        obtain ⟨j, hj, rfl, hL, hB⟩ := hrel
        obtain ⟨y, hy⟩ : ∃ y, y = chunkN j x0 p := ⟨_, rfl⟩
        rw [← hy] at hB
        have Hy := Lib.hid hy; clear hy
        obtain ⟨c0, c1, c2, c3, f0, f1, f2, f3⟩ := ref_facts hB
        have hsz : w.heap.size ≤ w0.heap.size := by rw [HS0.out]; exact Nat.le_refl _
        have HB := Lib.hid hB; clear hB
        have HL := Lib.hid hL; clear hL
        have hp1 : p.length ≤ 8 * n := by rw [Hlen.out]; exact Nat.le_refl _
        have hp2 : 8 * n ≤ p.length := by rw [Hlen.out]; exact Nat.le_refl _
        by_cases hlt : j < n
        · go_wp2_with fail
          refine (ref_number _ _ (by simp [size_mk]; omega)).mono ?_
          obtain ⟨m, hm⟩ : ∃ m, m = numLE ((p.drop (8 * j)).take 8) := ⟨_, rfl⟩
          rw [show numLE ((({ data := p.toArray } : ByteArray).extract (8 * j) (8 * j + 8)).data.toList) = m by rw [hm]; simp]
          rintro e w3 ⟨rfl, rfl⟩
          have HM := Lib.hid hm; clear hm
          go_wp2_with fail
          obtain ⟨y1, hy1⟩ : ∃ y1, y1 = Four.round ⟨y.a, y.b, y.c, y.d ^^^ m⟩ := ⟨_, rfl⟩
          refine (ref_round ⟨y.a, y.b, y.c, y.d ^^^ m⟩ _).mono ?_
          rw [← hy1]
          rintro e w4 ⟨rfl, hL4⟩
          have HY1 := Lib.hid hy1; clear hy1
          have hB4 := Blk.below (HB.out.set 3 (vu (y.d ^^^ m))) hL4 (Blk.lt (HB.out.set 3 (vu (y.d ^^^ m))))
          have hL4' := (HL.out.setCell (p := ⟨w0.heap.size, 3, none⟩) hsz (vu (y.d ^^^ m))).trans (hL4.mono (by have := HL.out.size; simp; omega))
          have HB4 := Lib.hid hB4; clear hB4
          have HL4 := Lib.hid hL4'; clear hL4 hL4'
          clear c0 c1 c2 c3 f0 f1 f2 f3
          go_wp2_with fail
          obtain ⟨y2, hy2⟩ : ∃ y2, y2 = Four.round y1 := ⟨_, rfl⟩
          refine (ref_round y1 _).mono ?_
          rw [← hy2]
          rintro e w5 ⟨rfl, hL5⟩
          have HY2 := Lib.hid hy2; clear hy2
          have hB5 := Blk.below HB4.out hL5 (Blk.lt HB4.out)
          have hL5' := HL4.out.trans (hL5.mono HL4.out.size)
          have HB5 := Lib.hid hB5; clear HB4
          have HL5 := Lib.hid hL5'; clear hL5 hL5' HL4
          obtain ⟨c0, c1, c2, c3, f0, f1, f2, f3⟩ := ref_facts (x0 := y.a) (x1 := y.b) (x2 := y.c) (x3 := y.d ^^^ m) hB5
          clear hB5
          unfold v4 vu
          go_wp2_with fail
          go_roundw
          case rel =>
            refine ⟨j + 1, by omega, by rw [show (8 * (j : Int) + 8) = 8 * ((j + 1 : Nat) : Int) by omega], (((((HL5.out.setCell hsz _).setCell hsz _).setCell hsz _).setCell hsz _).setCell hsz _), ?_⟩
            have e1 : chunkN (j + 1) x0 p = ⟨y2.a ^^^ m, y2.b, y2.c, y2.d⟩ := by
              rw [chunkN_succ, ← Hy.out, ← HM.out, Four.take, Four.rounds, Four.rounds, Four.rounds, ← HY1.out, ← HY2.out]
            rw [e1]
            exact (((((HB5.out.set 0 _).set 1 _).set 2 _).set 3 _).set 0 _)
          case measure => simp [intOf]; omega
        · obtain rfl : j = n := by omega
          have hpend : (p.length : Int) ≤ 8 * (j : Int) := by omega
          go_wp2_with fail
          obtain ⟨q0, hq0⟩ : ∃ q0 : Four, q0 = ⟨y.a, y.b, y.c ^^^ 255#64, y.d⟩ := ⟨_, rfl⟩
          refine gen_world (fun w' => Below w.heap.size w w' ∧ Blk w' w0.heap.size [vu q0.a, vu q0.b, vu q0.c, vu q0.d] 73) ⟨HL.out.setCell hsz _, by rw [hq0]; exact HB.out.set 2 _⟩ ?_
          clear c0 c1 c2 c3 f0 f1 f2 f3 HL HB
          have HQ0 := Lib.hid hq0; clear hq0
          rintro w3 ⟨hL3, hB3⟩
          have HL3 := Lib.hid hL3; clear hL3
          have HB3 := Lib.hid hB3; clear hB3
          go_loopw [12] (fun i wr => ∃ r : Nat, r ≤ 4 ∧ i = .int .i64 (r : Int) ∧ Below w.heap.size w wr ∧ Blk wr w0.heap.size [vu (Four.rounds r q0).a, vu (Four.rounds r q0).b, vu (Four.rounds r q0).c, vu (Four.rounds r q0).d] 73) (fun i _ => (4 - intOf i).toNat)
          case atStart => exact ⟨0, Nat.zero_le _, rfl, HL3.out, HB3.out⟩
          case round =>
            obtain ⟨r, hr, rfl, hL, hB⟩ := hrel
            obtain ⟨x, hx⟩ : ∃ x, x = Four.rounds r q0 := ⟨_, rfl⟩
            rw [← hx] at hB
            have HX := Lib.hid hx; clear hx
            obtain ⟨c0, c1, c2, c3, f0, f1, f2, f3⟩ := ref_facts hB
            have HB := Lib.hid hB; clear hB
            have HL := Lib.hid hL; clear hL
            by_cases hlt4 : r < 4
            · go_wp2_with fail
              obtain ⟨x1, hx1⟩ : ∃ x1, x1 = Four.round x := ⟨_, rfl⟩
              refine (ref_round x _).mono ?_
              rw [← hx1]
              rintro e w4 ⟨rfl, hL4⟩
              have HX1 := Lib.hid hx1; clear hx1
              have hB4 := Blk.below HB.out hL4 (Blk.lt HB.out)
              have hL4' := HL.out.trans (hL4.mono HL.out.size)
              have HL4 := Lib.hid hL4'; clear hL4 hL4'
              clear c0 c1 c2 c3 f0 f1 f2 f3
              obtain ⟨c0, c1, c2, c3, f0, f1, f2, f3⟩ := ref_facts hB4
              have HB4 := Lib.hid hB4; clear hB4
              unfold v4 vu
              go_wp2_with fail
              go_roundw
              case rel =>
                refine ⟨r + 1, by omega, by go_num, ((((HL4.out.setCell hsz _).setCell hsz _).setCell hsz _).setCell hsz _), ?_⟩
                have e1 : Four.rounds (r + 1) q0 = x1 := by rw [Four.rounds, ← HX.out, ← HX1.out]
                rw [e1]
                exact ((((HB4.out.set 0 _).set 1 _).set 2 _).set 3 _)
              case measure => simp [intOf]; omega
            · obtain rfl : r = 4 := by omega
              go_wp2_with fail
              go_ret2
              have e1 : refSum key.data.toList b.data.toList = x.all := by
                unfold refSum
                rw [← Hn.out, ← Hp.out, ← HX0.out, ← Hy.out]
                show (Four.rounds 4 _).all = _
                rw [← HQ0.out, ← HX.out]
              rw [e1]
              exact ⟨rfl, HL.out⟩
end Go.Proofs.Ytincoocagfegfaa
