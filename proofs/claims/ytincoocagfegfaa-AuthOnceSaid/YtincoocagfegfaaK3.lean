/- What is proved here: walks of the keyed sum's methods: a number of bytes; a byte is added. -/
import Derived.Test.YtincoocagfegfaaK2
import Derived.Test.YtincoocagfegfaaBytes
set_option linter.unusedVariables false
set_option linter.unusedSimpArgs false
namespace Go.Proofs.Ytincoocagfegfaa
open Go.RowKit
set_option maxHeartbeats 1000000 in
theorem number_any0 (xs : List UInt8) (g cap : Nat) (w : World) (hx : xs.length ≤ 8) (hc : ∀ i (h : i < xs.length), w.cell? ⟨g, i, none⟩ = some (vb xs[i])) :
    Calls Try.prog 44 #[.slice (some ⟨g, 0, none⟩) xs.length cap] w fun e w' => e = .returned (.int .u64 (w64 (numLE xs))) ∧ w = w' := by
  have Hc := Lib.hid hc; clear hc
  go_enter Try.func44, Try.ntmps44
  go_wp2_with fail
  go_loop [3, 4] (fun n i => ∃ k : Nat, k ≤ xs.length ∧ i = .int .i64 ((k : Int) - 1) ∧ n = .int .u64 (w64 (numLE (xs.drop k)))) (fun _ i => (intOf i + 1).toNat)
  case atStart => exact ⟨xs.length, Nat.le_refl _, by simp, by simp [numLE, w64]⟩
  case round =>
    obtain ⟨k, hk, rfl, rfl⟩ := hrel
    by_cases hlt : 0 < k
    · obtain ⟨j, rfl⟩ : ∃ j, k = j + 1 := ⟨k - 1, by omega⟩
      have hcell : w.cell? ⟨g, j, none⟩ = some (.int .u8 (xs[j].toNat : Int)) := Hc.out j (by omega)
      have HS := Lib.hid (numLE_drop xs j (by omega))
      go_wp2_with fail
      go_round
      case rel => exact ⟨j, by omega, rfl, by rw [HS.out]⟩
      case measure => simp [intOf]
    · obtain rfl : k = 0 := by omega
      go_wp2_with fail
      go_ret
      exact ⟨by simp, rfl⟩

theorem number_any (xs : List UInt8) (n g cap : Nat) (w : World) (hn : n = xs.length) (hx : xs.length ≤ 8) (hc : ∀ i (h : i < xs.length), w.cell? ⟨g, i, none⟩ = some (vb xs[i])) :
    Calls Try.prog 44 #[.slice (some ⟨g, 0, none⟩) n cap] w fun e w' => e = .returned (.int .u64 (w64 (numLE xs))) ∧ w = w' := by
  subst hn; exact number_any0 xs g cap w hx hc
theorem own_bytes {w : World} {base n g cap : Nat} {e : TypeId} {xs : List UInt8} (h : w.ownsRow base e 1 (.slice (some ⟨g, 0, none⟩) n cap) n (xs.map vb)) : ∀ i (h : i < xs.length), w.cell? ⟨g, i, none⟩ = some (vb xs[i]) := by
  intro i hi
  have hl := h.1
  simp at hl
  rw [h.cellAt i (by omega)]; simp [hi]

/-- A sum that is being made: the block b, the words, the bytes that are left (in a row of the call's own, from block 'base' on), and how many there were. -/
structure Summing (base : Nat) (w : World) (b : Nat) (x : Four) (left : List UInt8) (many : Nat) : Prop where
  up : base ≤ b
  ex : ∃ v : Value, SumBlk w b x v (.int .i64 many) ∧ w.ownsRow base 5 1 v left.length (left.map vb)
theorem own_ne {w : World} {b base n : Nat} {x : Four} {l m v : Value} {xs : List Value} (hB : SumBlk w b x l m) (h : w.ownsRow base 5 1 v n xs) : ∀ g, v.ownBlock = some g → g ≠ b := by
  rintro g hg rfl
  obtain ⟨_, h2 | ⟨g', cap, cur, hv, _, hh, _⟩⟩ := h
  · rw [h2.1] at hg; cases hg
  · rw [hv] at hg
    obtain rfl : g' = g := by injection hg
    unfold SumBlk Blk at hB; rw [hB] at hh; injection hh with hh; injection hh with _ hh _; cases hh
theorem own_form {w : World} {base n : Nat} {e : TypeId} {v : Value} {xs : List Value} (h : w.ownsRow base e 1 v n xs) (hn : 0 < n) : ∃ g cap, v = .slice (some ⟨g, 0, none⟩) n cap ∧ base ≤ g ∧ n ≤ cap := by
  obtain ⟨_, h2 | ⟨g', cap, cur, hv, h3, hh, h4, _⟩⟩ := h
  · omega
  · exact ⟨g', cap, hv, h3, h4⟩
theorem own_slice {w : World} {base n : Nat} {e : TypeId} {v : Value} {xs : List Value} (h : w.ownsRow base e 1 v n xs) : ∃ a cap, v = .slice a n cap := by
  obtain ⟨_, h2 | ⟨g', cap, cur, hv, h3, hh, h4, _⟩⟩ := h
  · exact ⟨none, 0, by rw [h2.1, h2.2]⟩
  · exact ⟨_, cap, hv⟩
theorem own_cut {w : World} {base n g cap : Nat} {e : TypeId} {xs : List Value} (h : w.ownsRow base e 1 (.slice (some ⟨g, 0, none⟩) n cap) n xs) : w.ownsRow base e 1 (.slice (some ⟨g, 0, none⟩) 0 cap) 0 [] := by
  obtain ⟨_, h2 | ⟨g', cap', cur, hv, h3, hh, h4, h5, h6, h7⟩⟩ := h
  · cases h2.1
  · injection hv with e1 e2 e3; injection e1 with e1; injection e1 with e1
    subst e1 e3
    exact ⟨by simp, .inr ⟨g, cap, cur, rfl, h3, hh, by omega, h5, h6, by simp⟩⟩
def addS (x : Four) (left : List UInt8) (c : UInt8) : Four × List UInt8 :=
  if left.length = 7 then (x.take (numLE (left ++ [c])), []) else (x, left ++ [c])
set_option maxHeartbeats 2000000 in
theorem add_any (base b : Nat) (x : Four) (left : List UInt8) (many : Nat) (c : UInt8) (w : World) (hl : left.length ≤ 7) (hm : many ≤ 9223372036854775806) (hbw : base ≤ w.heap.size) (h : Summing base w b x left many) :
    Calls Try.prog 40 #[.pointer (some ⟨b, 0, none⟩), .int .u8 (c.toNat : Int)] w fun e w' => e = .returned (.tuple #[]) ∧ Below base w w' ∧
      Summing base w' b (addS x left c).1 (addS x left c).2 (many + 1) := by
  obtain ⟨hb, v, hB, hown⟩ := h
  obtain ⟨va, vc, hv⟩ := own_slice hown
  have c4 : w.cell? ⟨b, 4, none⟩ = some v := hB.cell 4
  have c5 : w.cell? ⟨b, 5, none⟩ = some (.int .i64 many) := hB.cell 5
  have f4 : w.frozen? ⟨b, 4, none⟩ = false := hB.free 4
  have f5 : w.frozen? ⟨b, 5, none⟩ = false := hB.free 5
  have HB := Lib.hid hB; clear hB
  subst hv
  have Hown := Lib.hid hown; clear hown
  obtain ⟨i0, hi, hz0, hz1, hz2⟩ := info_parts info_u8
  go_enter Try.func40, Try.ntmps40
  go_wp2_with (at_builtin; refine wpList_append_own _ rfl _ _ 54 rfl base 5 i0 (.int .u8 0) 1 1 Try.underlying54 hi hz0 hz1 hz2 rfl (by decide) _ left.length (left.map vb) rfl (Hown.out.alloc _) ⟨w.heap.size, 0, none⟩ 1 1 [vb c] rfl rfl ?c1 ?c2 ?c3 ?c4 ?c5 ?_)
  case c1 => exact cell_one_new _ _ _
  case c2 => intro u hu; rw [List.mem_singleton.1 hu]; rfl
  case c3 => unfold maxLen; omega
  case c4 => omega
  case c5 => simp; omega
  intro v1 w1 hown1 hg1 _
  have K1 : Keep ((Value.slice va left.length vc).ownBlock.toList) w w1 := ((Keep.refl _ w).alloc _).trans (Keep.ofGrownV hg1 (fun g hg => by simp [hg]))
  have B1 : SumBlk w1 b x (.slice va left.length vc) (.int .i64 many) := Blk.keep HB.out K1 (fun e => by
    rw [Option.mem_toList] at e; exact own_ne HB.out Hown.out b e rfl)
  have L1 : Below base w w1 := K1.toBelowAt hbw (fun i hi => by rw [Option.mem_toList] at hi; exact (Hown.out.lt i hi).1)
  obtain ⟨g1, cap1, rfl, hg1b, hcap1⟩ := own_form hown1 (by omega)
  have d4 : w1.cell? ⟨b, 4, none⟩ = some (.slice va left.length vc) := B1.cell 4
  have d5 : w1.cell? ⟨b, 5, none⟩ = some (.int .i64 many) := B1.cell 5
  have g4 : w1.frozen? ⟨b, 4, none⟩ = false := B1.free 4
  have g5 : w1.frozen? ⟨b, 5, none⟩ = false := B1.free 5
  clear c4 c5 f4 f5 HB Hown hg1
  have HB1 := Lib.hid B1; clear B1
  have HL1 := Lib.hid L1; clear L1 K1
  have Hown1 := Lib.hid hown1; clear hown1
  clear hi hz0 hz1 hz2 i0
  have HB2 : SumBlk ((w1.setCell ⟨b, 4, none⟩ (.slice (some ⟨g1, 0, none⟩) (left.length + 1) cap1)).setCell ⟨b, 5, none⟩ (.int .i64 ((many : Int) + 1))) b x (.slice (some ⟨g1, 0, none⟩) (left.length + 1) cap1) (.int .i64 ((many : Int) + 1)) :=
    Blk.set (Blk.set HB1.out 4 _) 5 _
  have K2 : Keep [b] w1 ((w1.setCell ⟨b, 4, none⟩ (.slice (some ⟨g1, 0, none⟩) (left.length + 1) cap1)).setCell ⟨b, 5, none⟩ (.int .i64 ((many : Int) + 1))) :=
    ((Keep.refl _ w1).setCell (.inl (by simp)) _).setCell (.inl (by simp)) _
  have hne1 := own_ne HB1.out Hown1.out
  have Hown2 := Lib.hid (ownsRow_keep Hown1.out K2 (fun g hg => by simp; exact hne1 g hg))
  have hbw1 : base ≤ w1.heap.size := Nat.le_trans hbw HL1.out.size
  have HL2 := Lib.hid (HL1.out.trans (K2.toBelowAt hbw1 (fun i hi => by simp at hi; omega)))
  have HK2 := Lib.hid K2
  clear K2 hne1 HL1 hbw1
  have HB2' := Lib.hid HB2
  clear HB2
  by_cases h7 : left.length = 7
  · have hlen : (left ++ [c]).length = left.length + 1 := by simp
    have h8 : ((left.length : Int) + 1 == 8) = true := by rw [h7]; rfl
    have H7 := Lib.hid h7; clear h7
    have Hlen := Lib.hid hlen; clear hlen
    go_wp2_with fail
    have Hown2b := Hown2.out
    rw [show List.map vb left ++ [vb c] = (left ++ [c]).map vb by simp] at Hown2b
    refine (number_any (left ++ [c]) _ g1 cap1 _ Hlen.out.symm (by rw [Hlen.out, H7.out]; decide) (own_bytes Hown2b)).mono ?_
    rintro e w2 ⟨rfl, rfl⟩
    clear Hown2b
    go_wp2_with fail
    refine (take_any b x _ _ (numLE (left ++ [c])) _ HB2'.out).mono ?_
    rintro e w2 ⟨rfl, K3, B3⟩
    have e4 : w2.cell? ⟨b, 4, none⟩ = some (.slice (some ⟨g1, 0, none⟩) (left.length + 1) cap1) := B3.cell 4
    have g4' : w2.frozen? ⟨b, 4, none⟩ = false := B3.free 4
    have HB3 := Lib.hid B3; clear B3
    have HK3 := Lib.hid K3; clear K3
    clear d4 d5 g4 g5
    go_wp2_with fail
    go_end0
    have e7 : addS x left c = (x.take (numLE (left ++ [c])), []) := by rw [addS, if_pos H7.out]
    rw [e7]
    have K4 : Keep [b] _ (w2.setCell ⟨b, 4, none⟩ (.slice (some ⟨g1, 0, none⟩) 0 cap1)) := HK3.out.setCell (.inl (by simp)) _
    refine ⟨rfl, HL2.out.trans (K4.toBelowAt (by simp; exact Nat.le_trans hbw (by have := HK2.out.size; have := HL2.out.size; simp at this; omega)) (fun i hi => by simp at hi; omega)), hb, _, HB3.out.set 4 _, ?_⟩
    exact own_cut (ownsRow_keep Hown2.out K4 (fun g hg => by simp; exact own_ne HB2'.out Hown2.out g hg))
  · have h7' : (left.length : Int) ≤ 6 := by omega
    have e7 : addS x left c = (x, left ++ [c]) := by rw [addS, if_neg h7]
    clear h7
    have E7 := Lib.hid e7; clear e7
    go_wp2_with fail
    go_end0
    rw [E7.out]
    refine ⟨rfl, HL2.out, hb, _, HB2'.out, ?_⟩
    simpa using Hown2.out
end Go.Proofs.Ytincoocagfegfaa
