/- What is proved here: a part of the proof of TopLink (texts C2 End Ct2 Ct3 Que). No condition. -/
import Derived.Deep.RegionHeld
import Derived.StillTail
import Derived.Deep.DeepCutAuto
import Derived.Deep.QuietTactic
import Derived.BigQuiet
import Derived.Deep.RegionWith
import Derived.Laws.Slices
import Derived.Test.YtgopighmifpefaaGreatDoorPart01
set_option linter.unusedVariables false
set_option linter.unusedSimpArgs false
namespace Go.Proofs.YtgopighmifpefaaGreatDoor
section
open Go.RowKit
theorem take_succ_str (b : ByteArray) (k : Nat) (h : k < b.size) : b.data.toList.take (k + 1) = b.data.toList.take k ++ [b[k]] := by
  rw [List.take_succ_eq_append_getElem (by simpa using h)]; rfl
theorem wrap_u8_w16 (x : BitVec 16) : IntKind.u8.wrap (w16 x) = ((loB x).toNat : Int) := by
  rw [IntKind.wrap_u8', loB_toNat, w16]; omega
def ix (a b : UInt8) : Nat := (a ^^^ b).toNat
theorem ix_lt (a b : UInt8) : ix a b < 256 := (a ^^^ b).toNat_lt
theorem xor_u8 (a b : UInt8) : bits .xor .u8 (a.toNat : Int) (b.toNat : Int) = ((ix a b : Nat) : Int) := by
  rw [u8_xor_nat _ _ a.toNat_lt b.toNat_lt, ix, UInt8.toNat_xor]
attribute [local go_sem] wrap_u8_w16 xor_u8
theorem row_at (w : World) (n g i : Nat) (t : TypeId) (f : Nat → Value) (hB : Blk w g ((List.range n).map f) t) (h : i < n) : w.cell? ⟨g, i, none⟩ = some (f i) := by
  rw [hB.cell i]; simp [h]
set_option maxHeartbeats 2000000 in
set_option maxRecDepth 100000 in
theorem Next16_any (r : BitVec 16) (b : ByteArray) (w : World) (hb : b.size ≤ 1000000000) : Calls Tryz.prog 89 #[.int .u16 (w16 r), .string b] w fun e w' => e = .returned (.int .u16 (w16 (next16 r b.data.toList))) ∧ Below w.heap.size w w' := by
  go_enter Tryz.func89, Tryz.ntmps89
  go_wp2_with fail
  refine (bytes16_any _).mono ?_
  rintro e w1 ⟨rfl, hL1⟩
  have HL1 := Lib.hid hL1
  have hls := hL1.size
  clear hL1
  go_wp2_with (first | (refine wpList_alloc_zero rfl _ rfl (row16 0) alloc16 ?_) | (refine wpList_store_whole rfl _ _ _ rfl w1.heap.size rfl (row16 256) rfl _ (row16 0) (Blk.new w1 (row16 0) _) (by kernel_rfl) (by simp [row16_length]) (row16_one 256) ?_; intro w2 hK2 hB2))
  have HL2 := Lib.hid (((HL1.out.alloc hls (.cells (row16 0).toArray 183)).trans (hK2.toBelowAt (by simp; omega) (by simp; omega))))
  have HB2 := Lib.hid hB2
  clear hB2 hK2 HL1
  go_loop [0, 10] (fun s i => ∃ k : Nat, k ≤ b.size ∧ i = .int .i64 k ∧ s = .int .u16 (w16 (next16 r (b.data.toList.take k)))) (fun _ i => b.size - (intOf i).toNat)
  case atStart => exact ⟨0, Nat.zero_le _, rfl, by simp [next16_nil]⟩
  case round =>
    obtain ⟨k, hk, rfl, rfl⟩ := hrel
    by_cases hlt : k < b.size
    · have hi : ix (loB (next16 r (b.data.toList.take k) >>> 8)) b[k] < 256 := ix_lt _ _
      have c0 : w2.cell? ⟨w1.heap.size, ix (loB (next16 r (b.data.toList.take k) >>> 8)) b[k], none⟩ = some (.int .u16 (w16 (tab16 (ix (loB (next16 r (b.data.toList.take k) >>> 8)) b[k])))) := by
        have := row_at w2 256 w1.heap.size (ix (loB (next16 r (b.data.toList.take k) >>> 8)) b[k]) _ _ HB2.out hi
        rw [this, if_pos hi]; rfl
      have HS := Lib.hid (next16_snoc r (b.data.toList.take k) b[k])
      go_wp2_with fail
      go_round
      case rel => exact ⟨k + 1, by omega, by go_num, by rw [take_succ_str b k hlt, HS.out]; rfl⟩
      case measure => simp [intOf]; omega
    · obtain rfl : k = b.size := by omega
      have e1 : b.data.toList.take b.size = b.data.toList := List.take_of_length_le (by simp)
      rw [e1]
      clear e1
      go_wp2_with fail
      go_ret
      exact ⟨rfl, HL2.out⟩
end
section
open Go.RowKit
section
variable {P : Program} {ops : Array Oper} {Q : Exit → Act → World → Prop} {md : Region.Mode} {S : World → Prop} {k : Nat}
/-- S holds behind each operation but the last one, k. -/
def WpEnd (P : Program) (md : Region.Mode) (ops : Array Oper) (Q : Exit → Act → World → Prop) (S : World → Prop) (k : Nat) : Nat → Array Bool → Act → World → Prop
  | 0, listed, a, w => Region.ready md ops listed = [] ∧ Q .normal a w
  | f + 1, listed, a, w => (Region.ready md ops listed = [] → Q .normal a w) ∧
    ∀ i ∈ Region.ready md ops listed, wpOp P ops Q i (fun b v => (i ≠ k → S v) ∧ WpEnd P md ops Q S k f (listed.setIfInBounds i true) b v) a w
theorem WpEnd.any : ∀ (f : Nat) (listed : Array Bool) (a : Act) (w : World), WpEnd P md ops Q S k f listed a w → wpAny P md ops Q f listed a w
  | 0, _, _, _, h => h
  | f + 1, _, _, _, h => ⟨h.1, fun i hi => wpOp_mono (fun b v g => WpEnd.any f _ b v g.2) (h.2 i hi)⟩
theorem WpEnd.first {i : Nat} {oi : Oper} {v : Value} (hi : ops[i]? = some oi) (hsel : ∀ (j : Nat) (o : Oper) cs b, ops[j]? = some o → o.op ≠ .select cs b)
    (hQ : ∀ c a w, Q (.panic c) (a.put oi.dst v) w → Q (.panic c) a w) (hk : k < ops.size) (hik : i < k) (hs : Region.sinkB md ops k = true) (hc : Region.chainB md ops k = true) (f : Nat) :
    ∀ (listed : Array Bool) (a : Act) (w : World), HeadInv md ops k listed →
      (∀ j oj, ops[j]? = some oj → j ≠ i → listed.getD j true = false → (∀ e ∈ oj.after, Region.binds md e = true → e.on ≠ i) → oi.apart ops oj = true) →
      i ∈ Region.ready md ops listed → YieldsIf P ops S oi v a → S w →
      WpEnd P md ops Q S k f (listed.setIfInBounds i true) (a.put oi.dst v) w → WpEnd P md ops Q S k (f + 1) listed a w := by
  induction f with
  | zero =>
    intro listed a w _ _ hr hy hS H
    refine ⟨fun h => absurd hr (by rw [h]; simp), fun j hj => ?_⟩
    rcases Decidable.em (j = i) with e | e
    · subst e; exact hy.wpOp hi hS ⟨fun _ => hS, H⟩
    · exact absurd (ready_mono hj e) (by rw [H.1]; simp)
  | succ f ih =>
    intro listed a w inv hfree hr hy hS H
    refine ⟨fun h => absurd hr (by rw [h]; simp), fun j hj => ?_⟩
    rcases Decidable.em (j = i) with e | e
    · subst e; exact hy.wpOp hi hS ⟨fun _ => hS, H⟩
    have hri := (mem_ready.1 hr).1
    have hjk : j < k := by
      rcases Nat.lt_or_ge j k with h | h
      · exact h
      · exact absurd hj (tail_waits hs hc hk inv (k - i) i rfl hik hri j h)
    obtain ⟨hun, oj, hoj, hall⟩ := mem_ready.1 hj
    have hno : ∀ g ∈ oj.after, Region.binds md g = true → g.on ≠ i := by
      intro g hg hb hgi
      have h1 := hall g hg hb
      rw [hgi] at h1
      by_cases hz : i < listed.size
      · simp [hz] at hri h1; exact absurd h1 (by simp [hri])
      · simp [Array.getElem?_eq_none (Nat.le_of_not_lt hz)] at h1
    have hfree2 : ∀ j' oj', ops[j']? = some oj' → j' ≠ i → (listed.setIfInBounds j true).getD j' true = false → (∀ e ∈ oj'.after, Region.binds md e = true → e.on ≠ i) → oi.apart ops oj' = true := by
      intro j' oj' h1 h2 h3 h4
      refine hfree j' oj' h1 h2 ?_ h4
      rcases Decidable.em (j = j') with e2 | e2
      · exact e2 ▸ hun
      · rwa [getD_set_ne true e2] at h3
    refine wpOp_mono ?_ (wpOp_putIf hoj (hfree j oj hoj e hun hno) (fun cs b => hsel i oi cs b hi) (fun cs b => hsel j oj cs b hoj) hQ hy (H.2 j (ready_mono hj e)))
    rintro b u ⟨hyb, hSu, hW⟩
    have hu := hSu (Nat.ne_of_lt hjk)
    exact ⟨fun _ => hu, ih _ b u (inv.set hj hjk) hfree2 (ready_mono hr (Ne.symm e)) hyb hu (by rw [Array.setIfInBounds_comm _ _ e]; exact hW)⟩
theorem WpEnd.take {i : Nat} (d : Option Tmp) {oi : Oper} {v : Value} {f : Nat} {listed : Array Bool} {a : Act} {w : World} (hi : ops[i]? = some oi) (hd : oi.dst = d) (hsl : Region.noSelect ops = true) (hf : Region.free md ops listed i = true)
    (hr : (Region.ready md ops listed).contains i = true) (hQ : ∀ c a w, Q (.panic c) (a.put d v) w → Q (.panic c) a w) (hb : (decide (k < ops.size) && decide (i < k) && Region.sinkB md ops k && Region.chainB md ops k) = true)
    (inv : HeadInv md ops k listed) (hS : S w) (hw : Region.wanted oi (yielded ops a.tmps) = true) (hy : ∀ w, S w → (execOp a.eval oi).run P w = .ok (.value v) w)
    (h : HeadInv md ops k (listed.setIfInBounds i true) → WpEnd P md ops Q S k f (listed.setIfInBounds i true) (a.put d v) w) : WpEnd P md ops Q S k (f + 1) listed a w := by
  subst hd
  simp only [Bool.and_eq_true, decide_eq_true_eq] at hb
  have hm : i ∈ Region.ready md ops listed := by simpa using hr
  exact WpEnd.first hi (Region.noSelect_spec hsl) hQ hb.1.1.1 hb.1.1.2 hb.1.2 hb.2 f listed a w inv (Region.free_spec hi hf) hm (.inl ⟨hw, hy⟩) hS (h (inv.set hm hb.1.1.2))
/-- Each of the operations rs comes up next. -/
def EachEnd (P : Program) (md : Region.Mode) (ops : Array Oper) (Q : Exit → Act → World → Prop) (S : World → Prop) (k f : Nat) (listed : Array Bool) (a : Act) (w : World) (rs : List Nat) : Prop :=
  ∀ i ∈ rs, wpOp P ops Q i (fun b v => (i ≠ k → S v) ∧ WpEnd P md ops Q S k f (listed.setIfInBounds i true) b v) a w
theorem EachEnd.nil {f : Nat} {listed : Array Bool} {a : Act} {w : World} : EachEnd P md ops Q S k f listed a w [] := fun _ h => by cases h
theorem EachEnd.cons {f : Nat} {listed : Array Bool} {a : Act} {w : World} {i : Nat} (d : Option Tmp) {o : Oper} {rs : List Nat} (ho : ops[i]? = some o) (hd : o.dst = d) (hik : i < k) (hr : (Region.ready md ops listed).contains i = true) (inv : HeadInv md ops k listed)
    (h : ∀ K : Act → World → Prop, Shut (∀ u v, S v → (HeadInv md ops k (listed.setIfInBounds i true) → S v → WpEnd P md ops Q S k f (listed.setIfInBounds i true) (a.put d u) v) → K (a.put o.dst u) v) →
      Shut (∀ b v, S v → (HeadInv md ops k (listed.setIfInBounds i true) → S v → WpEnd P md ops Q S k f (listed.setIfInBounds i true) b v) → K b v) →
      if Region.wanted o (yielded ops a.tmps) = true then Oper.wp P o a w K Q else K (a.put o.dst undef) w)
    (hs : EachEnd P md ops Q S k f listed a w rs) : EachEnd P md ops Q S k f listed a w (i :: rs) := fun j hj => by
  subst hd
  rcases List.mem_cons.1 hj with rfl | hj
  · exact wpOp_step ho (fun K hK => h K (fun u v hS hW => hK _ v ⟨fun _ => hS, hW (inv.set (by simpa using hr) hik) hS⟩) (fun b v hS hW => hK b v ⟨fun _ => hS, hW (inv.set (by simpa using hr) hik) hS⟩))
  · exact hs j hj
theorem EachEnd.last {f : Nat} {listed : Array Bool} {a : Act} {w : World} {o : Oper} (ho : ops[k]? = some o)
    (h : ∀ K : Act → World → Prop, Shut (∀ b v, WpEnd P md ops Q S k f (listed.setIfInBounds k true) b v → K b v) → if Region.wanted o (yielded ops a.tmps) = true then Oper.wp P o a w K Q else K (a.put o.dst undef) w) : EachEnd P md ops Q S k f listed a w [k] := fun j hj => by
  obtain rfl : j = k := by simpa using hj
  exact wpOp_step ho (fun K hK => h K (fun b v hW => hK b v ⟨fun e => absurd rfl e, hW⟩))
theorem WpEnd.ready {rs : List Nat} {f : Nat} {listed : Array Bool} {a : Act} {w : World} (hr : Region.ready md ops listed = rs) (hne : rs ≠ []) (h : EachEnd P md ops Q S k f listed a w rs) : WpEnd P md ops Q S k (f + 1) listed a w :=
  ⟨fun h0 => absurd (hr ▸ h0) hne, hr ▸ h⟩
theorem WpEnd.done {listed : Array Bool} {a : Act} {w : World} (hr : Region.ready md ops listed = []) (h : Q .normal a w) : ∀ f, WpEnd P md ops Q S k f listed a w
  | 0 => ⟨hr, h⟩
  | _ + 1 => ⟨fun _ => h, by rw [hr]; simp⟩
theorem HeadInv.start (k : Nat) : HeadInv md ops k (Array.replicate ops.size false) := by
  refine ⟨by simp, fun j oj _ hl => ?_, fun t _ ht => by simp [ht]⟩
  rw [getD_replicate_false] at hl; cases hl
theorem region_end {id : Nat} {a : Act} {w : World} (S : World → Prop) (k : Nat) (hm : P.follows .mixedOrders = true) (hS : S w.drew)
    (h : HeadInv .any ops k (Array.replicate ops.size false) → S w.drew → WpEnd P .any ops Q S k ops.size (Array.replicate ops.size false) a w.drew) : (Code.region id ops true).wp P Q a w :=
  wp_region_any hm (WpEnd.any _ _ _ _ (h (HeadInv.start k) hS))
end
theorem post_any {F : Exit → Act → World → Prop} {a : Act} {W : World} (φ : World → Prop) (h : φ W) (g : ∀ w, φ w → F .normal a w) : F .normal a W := g W h
end
section
open Go.RowKit
theorem hf_and : ∀ r : Nat, r < 128 → bits .and .u8 ((r : Int) * 16 % 256) 127 = (r : Int) * 16 % 128 := by decide +kernel
theorem hf_ix : ∀ r : Nat, r < 128 → ∀ h : Nat, h < 16 → bits .xor .u8 ((r : Int) / 8) (h : Int) = (((r / 8) ^^^ h : Nat) : Int) := by decide +kernel
theorem hf_xor : ∀ r : Nat, r < 128 → ∀ h : Nat, h < 16 → bits .xor .u8 ((r : Int) * 16 % 128) ((halvesL[(r / 8) ^^^ h]?.getD 0 : Nat) : Int) = (halfN r h : Nat) := by decide +kernel
theorem lo_and : ∀ c : Nat, c < 256 → bits .and .u8 (c : Int) 15 = ((c % 16 : Nat) : Int) := by decide +kernel
def partN (r : Nat) (c : UInt8) : Nat → Nat
  | 0 => r
  | 1 => halfN r (c.toNat / 16)
  | _ => byteN r c
theorem hf_div (c : UInt8) : ((c.toNat : Int) / 16) = ((c.toNat / 16 : Nat) : Int) ∧ ((c.toNat : Int) % 16) = ((c.toNat % 16 : Nat) : Int) := by omega
theorem pair_index (x y : Int) (w : World) : (Instr.index 121 (.agg #[.int .u8 x, .int .u8 y]) (.int .i64 0)).run Tryz.prog w = .ok (.int .u8 x) w ∧ (Instr.index 121 (.agg #[.int .u8 x, .int .u8 y]) (.int .i64 1)).run Tryz.prog w = .ok (.int .u8 y) w := ⟨by kernel_rfl, by kernel_rfl⟩
set_option maxHeartbeats 4000000 in
set_option maxRecDepth 100000 in
theorem remainder_any (b : ByteArray) (w : World) (hb : b.size ≤ 1000000000) (hG : Gl w) : Calls Tryz.prog 95 #[.string b] w fun e w' => e = .returned (.int .u8 (remL b.data.toList : Nat)) ∧ Below w.heap.size w w' := by
  have HG := Lib.hid hG; clear hG
  go_enter Tryz.func95, Tryz.ntmps95
  go_wp2_with fail
  go_loopw [3, 9] (fun s i wr => ∃ k : Nat, k ≤ b.size ∧ i = .int .i64 k ∧ s = .int .u8 (remL (b.data.toList.take k) : Nat) ∧ Below w.heap.size w wr ∧ Gl wr) (fun _ i _ => b.size - (intOf i).toNat)
  case atStart => exact ⟨0, Nat.zero_le _, rfl, by simp [remL], Below.refl _ _, HG.out⟩
  case round =>
    obtain ⟨k, hk, rfl, rfl, hL, hG⟩ := hrel
    by_cases hlt : k < b.size
    · have HL := Lib.hid hL; have HG1 := Lib.hid hG
      obtain ⟨r, hr⟩ : ∃ r, r = remL (b.data.toList.take k) := ⟨_, rfl⟩
      have hr1 : r < 128 := by rw [hr]; exact remL_lt _
      rw [← hr]
      have HR := Lib.hid hr
      clear hL hG hr HG
      go_upto_region 5 with fail
      go_quiet (fail)
      refine post_any (fun W => Below w.heap.size w W ∧ Gl W) ⟨⟨HL.out.os, HL.out.tape, HL.out.output, HL.out.size, HL.out.block⟩, HG1.out.below (B := wr.heap.size) ⟨rfl, rfl, rfl, Nat.le_refl _, fun _ _ => rfl⟩ (Nat.le_refl _)⟩ ?_
      clear HL HG1
      rintro w2 ⟨hL, hG⟩
      have HL := Lib.hid hL; have HG := Lib.hid hG; clear hL hG
      obtain ⟨c, hc⟩ : ∃ c : UInt8, c = b[k] := ⟨_, rfl⟩
      rw [← hc]
      have HC := Lib.hid hc; clear hc
      obtain ⟨x, hx⟩ : ∃ x, x = c.toNat / 16 := ⟨_, rfl⟩
      obtain ⟨y, hy⟩ : ∃ y, y = c.toNat % 16 := ⟨_, rfl⟩
      rw [(hf_div c).1, lo_and c.toNat c.toNat_lt, ← hx, ← hy]
      have hcl := c.toNat_lt
      have hx1 : x < 16 := by omega
      have hy1 : y < 16 := by omega
      have HXX := Lib.hid hx; have HYY := Lib.hid hy
      clear hx hy hcl
      go_wp2_with fail
      go_loop [3, 21] (fun s i => ∃ j : Nat, j ≤ 2 ∧ i = .int .i64 j ∧ s = .int .u8 (partN r c j : Nat)) (fun _ i => 2 - (intOf i).toNat)
      case atStart => exact ⟨0, by omega, rfl, rfl⟩
      case round =>
        obtain ⟨j, hj, rfl, rfl⟩ := hrel
        have hj3 : j = 0 ∨ j = 1 ∨ j = 2 := by omega
        rcases hj3 with rfl | rfl | rfl
        · have hp := (pair_index x y w2).1
          have hr2 : r < 128 := hr1
          obtain ⟨r', hr'⟩ : ∃ r', r' = r := ⟨_, rfl⟩
          have HE := Lib.hid hr'
          rw [← hr'] at hr2
          have a1 := hf_and r' hr2
          have a2 := hf_ix r' hr2 x hx1
          have a3 := hf_xor r' hr2 x hx1
          have hil := (half_lt r' hr2 x hx1).2
          obtain ⟨ix, hix⟩ : ∃ ix, ix = (r' / 8) ^^^ x := ⟨_, rfl⟩
          rw [← hix] at a2 a3 hil
          have t0 := HG.out.hv ix hil
          rw [List.getD_eq_getElem?_getD] at t0
          have hil2 : (ix : Int) < 16 := by omega
          clear hix hr'
          simp only [partN]
          rw [← HE.out]
          go_wp2_with fail
          go_round
          case rel => exact ⟨1, by omega, rfl, by simp only [partN]; rw [HE.out, HXX.out]⟩
          case measure => simp [intOf]
        · have hp := (pair_index x y w2).2
          have hr2 : halfN r (c.toNat / 16) < 128 := by rw [← HXX.out]; exact (half_lt r hr1 x hx1).1
          obtain ⟨r', hr'⟩ : ∃ r', r' = halfN r (c.toNat / 16) := ⟨_, rfl⟩
          have HE := Lib.hid hr'
          rw [← hr'] at hr2
          have a1 := hf_and r' hr2
          have a2 := hf_ix r' hr2 y hy1
          have a3 := hf_xor r' hr2 y hy1
          have hil := (half_lt r' hr2 y hy1).2
          obtain ⟨ix, hix⟩ : ∃ ix, ix = (r' / 8) ^^^ y := ⟨_, rfl⟩
          rw [← hix] at a2 a3 hil
          have t0 := HG.out.hv ix hil
          rw [List.getD_eq_getElem?_getD] at t0
          have hil2 : (ix : Int) < 16 := by omega
          clear hix hr'
          simp only [partN]
          rw [← HE.out]
          go_wp2_with fail
          go_round
          case rel => exact ⟨2, by omega, rfl, by simp only [partN]; unfold byteN; rw [HE.out, HYY.out]⟩
          case measure => simp [intOf]
        · have HS := Lib.hid (remL_snoc (b.data.toList.take k) b[k])
          simp only [partN]
          go_wp2_with fail
          exact ⟨⟨k + 1, by omega, by go_num, by rw [take_succ_str b k hlt, HS.out, HR.out, HC.out], HL.out, HG.out⟩, by simp [intOf]; omega⟩
    · obtain rfl : k = b.size := by omega
      have e1 : b.data.toList.take b.size = b.data.toList := List.take_of_length_le (by simp)
      rw [e1]
      clear e1
      have HL := Lib.hid hL; clear hL hG
      go_wp2_with fail
      go_ret
      exact ⟨rfl, HL.out⟩
end
section
open Go.RowKit
def powN : Nat → Nat
  | 0 => 1
  | t + 1 => shN (powN t)
theorem shN_lt (r : Nat) (h : r < 128) : shN r < 128 := by
  revert r; decide +kernel
theorem powN_lt (t : Nat) : powN t < 128 := by
  induction t with
  | zero => decide
  | succ t ih => exact shN_lt _ ih
/-- The syndrome of eight bytes. -/
def synN (l : List UInt8) : Nat := remL (l.take 7) ^^^ ((255 - (l.getD 7 0).toNat) / 2)
/-- The seven bytes of a code block, and how many bits were wrong. -/
def chkL (l : List UInt8) : Option (List UInt8 × Nat) :=
  if synN l = 0 then some (l.take 7, 0) else
  match (List.range 63).find? (fun t => powN t == synN l) with
  | some t => some (if 62 - t < 56 then flipAt (l.take 7) (62 - t) else l.take 7, 1)
  | none => none
def chkV (l : List UInt8) : Value := match chkL l with
  | some (s, n) => .tuple #[strOf s, .int .i64 n, .int .i64 0]
  | none => .tuple #[.string ⟨#[]⟩, .int .i64 0, .int .i64 6]
theorem chkV_zero (l : List UInt8) (h : synN l = 0) : chkV l = .tuple #[strOf (l.take 7), .int .i64 0, .int .i64 0] := by
  unfold chkV chkL; rw [if_pos h]; rfl
theorem chkV_one (l : List UInt8) (t : Nat) (h0 : synN l ≠ 0) (ht : t < 63) (he : powN t = synN l) (hb : ∀ u, u < t → powN u ≠ synN l) :
    chkV l = .tuple #[strOf (if 62 - t < 56 then flipAt (l.take 7) (62 - t) else l.take 7), .int .i64 1, .int .i64 0] := by
  have hf : (List.range 63).find? (fun t => powN t == synN l) = some t := by
    rw [List.find?_eq_some_iff_getElem]
    refine ⟨by simpa using he, t, by simpa using ht, by simp, fun j hj => ?_⟩
    simpa using hb j hj
  unfold chkV chkL
  rw [if_neg h0, hf]; rfl
theorem chkV_none (l : List UInt8) (h0 : synN l ≠ 0) (hb : ∀ u, u < 63 → powN u ≠ synN l) : chkV l = .tuple #[.string ⟨#[]⟩, .int .i64 0, .int .i64 6] := by
  have hf : (List.range 63).find? (fun t => powN t == synN l) = none := by
    rw [List.find?_eq_none]
    intro u hu
    simpa using hb u (by simpa using hu)
  unfold chkV chkL
  rw [if_neg h0, hf]
theorem syn_op : ∀ r : Nat, r < 128 → ∀ c : Nat, c < 256 → bits .xor .u8 (r : Int) (bits .xor .u8 IntKind.u8.max (c : Int) / 2) = ((r ^^^ ((255 - c) / 2) : Nat) : Int) := by decide +kernel
attribute [local go_sem] run_bytes bytes_size
set_option maxHeartbeats 8000000 in
set_option maxRecDepth 100000 in
theorem Check_any (b : ByteArray) (w : World) (hb : b.size = 8) (hG : Gl w) : Calls Tryz.prog 88 #[.string b] w fun e w' => e = .returned (chkV b.data.toList) ∧ Below w.heap.size w w' := by
  have HG := Lib.hid hG; clear hG
  have h7 : (b.extract 0 7).size = 7 := by rw [ByteArray.size_extract]; omega
  go_enter Tryz.func88, Tryz.ntmps88
  go_upto_region 4 with fail
  have hsl : (b.extract 0 7).data.toList = b.data.toList.take 7 := by rw [ByteArray.data_extract, Array.toList_extract]; simp
  have hrow := bytes_row w (b.extract 0 7) (by omega)
  rw [h7, hsl] at hrow
  refine gen_world (fun w' => Below w.heap.size w w' ∧ w.heap.size + 1 ≤ w'.heap.size ∧ Row w' w.heap.size (.slice (some ⟨w.heap.size, 0, none⟩) 7 (grownCap w 7 0 5)) (b.data.toList.take 7)) ⟨(bytes_keep w _).toBelow, by rw [bytes_size]; exact Nat.le_refl _, hrow⟩ ?_
  clear hrow
  generalize grownCap w 7 0 5 = cap
  rintro w1 ⟨hL1, hs1, hR1⟩
  have HL1 := Lib.hid hL1; have HR1 := Lib.hid hR1
  have HG1 := Lib.hid (HG.out.below hL1 (Nat.le_refl _))
  clear hL1 hR1 HG
  obtain ⟨R, hR⟩ : ∃ R, R = remL (b.data.toList.take 7) := ⟨_, rfl⟩
  have HRM := Lib.hid (fun (W : World) (hG : Gl W) => (by have := remainder_any (b.extract 0 7) W (by omega) hG; rw [hsl, ← hR] at this; exact this : Calls Tryz.prog 95 #[.string (b.extract 0 7)] W fun e w' => e = .returned (.int .u8 (R : Nat)) ∧ Below W.heap.size W w'))
  have hR2 : R < 128 := by rw [hR]; exact remL_lt _
  have h78 : 7 < b.size := by omega
  have hsy := syn_op R hR2 b[7].toNat b[7].toNat_lt
  have HRE := Lib.hid hR
  clear hR hsl
  go_cut [6] (fun p6 W2 => p6 = .int .u8 ((R ^^^ ((255 - b[7].toNat) / 2) : Nat) : Int) ∧ Below w1.heap.size w1 W2)
  case first =>
    go_region_with (first | (go_at_call 95; refine (HRM.out _ HG1.out.drew).mono ?_; rintro e W2 ⟨rfl, hL⟩) | fail)
    all_goals
      go_wp2_with fail
      go_meet
      exact ⟨rfl, ((Below.refl _ _).drew).trans hL⟩
  case rest =>
    obtain ⟨rfl, hL⟩ := hcut
    obtain ⟨sy, hsyn⟩ : ∃ sy, sy = R ^^^ ((255 - b[7].toNat) / 2) := ⟨_, rfl⟩
    rw [← hsyn]
    have hs : synN b.data.toList = sy := by
      unfold synN
      rw [hsyn, ← HRE.out, List.getD_eq_getElem?_getD, List.getElem?_eq_getElem (by simpa using h78)]
      rfl
    have hL2 := HL1.out.trans (hL.mono HL1.out.size)
    have hR3 := row_below HR1.out hL (Nat.le_refl _)
    have hsl7 : sy < 128 := by
      rw [hsyn]
      have : ∀ r, r < 128 → ∀ c, c < 256 → r ^^^ ((255 - c) / 2) < 128 := by decide +kernel
      exact this R hR2 _ b[7].toNat_lt
    have HR3 := Lib.hid hR3; have HL2 := Lib.hid hL2; have HS := Lib.hid hs
    have HLT := Lib.hid hL.size
    clear hL hL2 hR3 hs hsyn HR1 HL1 HG1 HRM hsy HRE hR2
    by_cases h0 : sy = 0
    · subst h0
      have hcv := run_string HR3.out
      go_wp2_with fail
      go_ret3
      exact ⟨by rw [chkV_zero _ HS.out]; rfl, HL2.out⟩
    · have k0 : ((sy : Int) == 0) = false := by simp; omega
      have H0 := Lib.hid (show synN b.data.toList ≠ 0 by rw [HS.out]; exact h0)
      clear h0
      go_wp2_with fail
      go_loop [7, 8] (fun p i => ∃ t : Nat, t ≤ 63 ∧ i = .int .i64 (62 - (t : Int)) ∧ p = .int .u8 (powN t : Nat) ∧ ∀ u, u < t → powN u ≠ sy) (fun _ i => (intOf i + 1).toNat)
      case atStart => exact ⟨0, by omega, rfl, rfl, fun u hu => by omega⟩
      case round =>
        obtain ⟨t, ht, rfl, rfl, hbef⟩ := hrel
        have HB := Lib.hid hbef; clear hbef
        by_cases h63 : t < 63
        · have k1 : (0 : Int) ≤ 62 - (t : Int) := by omega
          by_cases he : powN t = sy
          · have k2 : ((powN t : Int) == (sy : Int)) = true := by simp [he]
            have HE := Lib.hid he; clear he
            obtain ⟨k, hk⟩ : ∃ k : Nat, (k : Int) = 62 - (t : Int) := ⟨62 - t, by omega⟩
            have HK := Lib.hid (show k = 62 - t by omega)
            rw [← hk] at k1 ⊢
            clear hk
            by_cases h56 : k < 56
            · have k3 : (k : Int) < 56 := by omega
              obtain ⟨j, hj⟩ : ∃ j, j = k / 8 := ⟨_, rfl⟩
              obtain ⟨r, hr⟩ : ∃ r, r = k % 8 := ⟨_, rfl⟩
              have hj2 : j < 7 := by omega
              have hr2 : r < 8 := by omega
              have q1 : IntKind.i64.wrap ((k : Int) / 8) = (j : Int) := by rw [IntWalk.i64_in _ (by omega)]; omega
              have q2 : ((k : Int).tmod 8) = (r : Int) := by
                rw [Int.tmod_eq_emod_of_nonneg (by omega)]; omega
              have q3 : ((k : Int) % 8) = (r : Int) := by omega
              have hlen : (b.data.toList.take 7).length = 7 := by rw [List.length_take]; simp; omega
              have hjl : j < (b.data.toList.take 7).length := by omega
              obtain ⟨c, hc⟩ : ∃ c, c = (b.data.toList.take 7).getD j 0 := ⟨_, rfl⟩
              have c0 : wc.cell? ⟨w.heap.size, j, none⟩ = some (.int .u8 (c.toNat : Int)) := by
                rw [row_byte HR3.out j hjl, hc, List.getD_eq_getElem?_getD, List.getElem?_eq_getElem hjl]; rfl
              have f0 : wc.frozen? ⟨w.heap.size, j, none⟩ = false := row_free HR3.out rfl _ hjl
              have hj3 : (j : Int) < 7 := by omega
              obtain ⟨d, hd⟩ : ∃ d, d = c ^^^ ((1 : UInt8) <<< UInt8.ofNat (7 - r)) := ⟨_, rfl⟩
              have q4 : bits .xor .u8 (c.toNat : Int) (128 / 2 ^ r) = (d.toNat : Int) := by
                have h : ∀ r : Nat, r < 8 → (128 : Int) / 2 ^ r = 2 ^ (7 - r) % 256 := by decide
                rw [h r hr2, hd]
                exact xor_bit c (7 - r) (by omega)
              have hR4 := row_set HR3.out j d
              have hcv := run_string (w := (wc.setCell ⟨w.heap.size, j, none⟩ (.int .u8 (d.toNat : Int))).drew) hR4
              have hfin : flipAt (b.data.toList.take 7) k = (b.data.toList.take 7).set j d := by
                unfold flipAt
                rw [← hj, ← hr, ← hc, ← hd]
              have HFN := Lib.hid hfin
              clear hj hr hc hlen hjl hfin hd hR4
              go_upto_region 13 with fail
              refine still_tail 10 (by kernel_rfl) (by kernel_rfl) ?_
              simp only [List.take_succ_cons, List.take_zero, List.drop_succ_cons, List.drop_zero]
              repeat still_step
              refine wpStill_nil ?_
              go_wp2_with fail
              go_ret3
              exact ⟨by rw [chkV_one _ t H0.out (by omega) (by rw [HS.out]; exact HE.out) (by rw [HS.out]; exact HB.out), ← HK.out, if_pos h56, HFN.out]; rfl, (HL2.out.setCell (Nat.le_refl _) _).drew⟩
            · have k3 : ¬ (k : Int) < 56 := by omega
              have hcv := run_string HR3.out
              go_wp2_with fail
              go_ret3
              exact ⟨by rw [chkV_one _ t H0.out (by omega) (by rw [HS.out]; exact HE.out) (by rw [HS.out]; exact HB.out), ← HK.out, if_neg h56]; rfl, HL2.out⟩
          · have k2 : ((powN t : Int) == (sy : Int)) = false := by simp; omega
            have HE := Lib.hid he; clear he
            have hps := powN_lt t
            go_wp2_with fail
            refine (shifted_any (powN t) _ (by omega)).mono ?_
            rintro e _ ⟨rfl, rfl⟩
            go_wp2_with fail
            go_round
            case rel => exact ⟨t + 1, by omega, by congr 1; omega, rfl, fun u hu => by
              rcases Nat.lt_or_ge u t with h | h
              · exact HB.out u h
              · have : u = t := by omega
                subst this; exact HE.out⟩
            case measure => simp [intOf]; omega
        · obtain rfl : t = 63 := by omega
          have k1 : ¬ (0 : Int) ≤ 62 - ((63 : Nat) : Int) := by decide
          go_wp2_with fail
          go_ret3
          exact ⟨by rw [chkV_none _ H0.out (by rw [HS.out]; exact HB.out)]; rfl, HL2.out⟩
end
section
open Go.RowKit
/-- A slice of n elements of sz cells each, of the call's own, from block 'base' on; it may begin in the middle of its block. -/
def QRow (w : World) (base : Nat) (e : TypeId) (sz : Nat) (v : Value) (n : Nat) (xs : List Value) : Prop :=
  xs.length = n * sz ∧ n ≤ maxLen ∧ ((v = .slice none 0 0 ∧ n = 0) ∨
  ∃ g off cap cur, v = .slice (some ⟨g, off, none⟩) n cap ∧ base ≤ g ∧ w.heap[g]? = some (.cells cur e (0, 0)) ∧
    n ≤ cap ∧ cap ≤ maxLen ∧ off + cap * sz ≤ cur.size ∧ (cur.toList.drop off).take (n * sz) = xs)
theorem q_nil (w : World) (base : Nat) (e : TypeId) (sz : Nat) : QRow w base e sz (.slice none 0 0) 0 [] := ⟨by simp, Nat.zero_le _, .inl ⟨rfl, rfl⟩⟩
theorem q_len {w : World} {base : Nat} {e : TypeId} {sz : Nat} {v : Value} {n : Nat} {xs : List Value} (h : QRow w base e sz v n xs) : xs.length = n * sz := h.1
theorem q_form {w : World} {base : Nat} {e : TypeId} {sz : Nat} {v : Value} {n : Nat} {xs : List Value} (h : QRow w base e sz v n xs) : ∃ a cap, v = .slice a n cap ∧ n ≤ cap ∧ cap ≤ maxLen := by
  rcases h.2.2 with ⟨rfl, rfl⟩ | ⟨g, off, cap, cur, rfl, _, _, h1, h2, _⟩
  · exact ⟨none, 0, rfl, Nat.le_refl _, Nat.zero_le _⟩
  · exact ⟨_, _, rfl, h1, h2⟩
theorem q_lt {w : World} {base : Nat} {e : TypeId} {sz : Nat} {v : Value} {n : Nat} {xs : List Value} (h : QRow w base e sz v n xs) : ∀ k, v.ownBlock = some k → base ≤ k ∧ k < w.heap.size := by
  intro k hk
  rcases h.2.2 with ⟨rfl, _⟩ | ⟨g, off, cap, cur, rfl, hb, hg, _⟩
  · cases hk
  · obtain rfl : g = k := by injection hk
    exact ⟨hb, (Array.getElem?_eq_some_iff.1 hg).1⟩
theorem q_keep {S : List Nat} {w w' : World} {base : Nat} {e : TypeId} {sz : Nat} {v : Value} {n : Nat} {xs : List Value} (h : QRow w base e sz v n xs) (k : Keep S w w') (hn : ∀ g, v.ownBlock = some g → g ∉ S) : QRow w' base e sz v n xs := by
  refine ⟨h.1, h.2.1, ?_⟩
  rcases h.2.2 with h | ⟨g, off, cap, cur, hv, hb, hg, r⟩
  · exact .inl h
  · exact .inr ⟨g, off, cap, cur, hv, hb, by rw [k.block g (Array.getElem?_eq_some_iff.1 hg).1 (hn g (by rw [hv]; rfl))]; exact hg, r⟩
theorem q_below {w w' : World} {base B : Nat} {e : TypeId} {sz : Nat} {v : Value} {n : Nat} {xs : List Value} (h : QRow w base e sz v n xs) (k : Below B w w') (hB : w.heap.size ≤ B) : QRow w' base e sz v n xs := by
  refine ⟨h.1, h.2.1, ?_⟩
  rcases h.2.2 with h | ⟨g, off, cap, cur, hv, hb, hg, r⟩
  · exact .inl h
  · exact .inr ⟨g, off, cap, cur, hv, hb, by rw [k.block g (by have := (Array.getElem?_eq_some_iff.1 hg).1; omega)]; exact hg, r⟩
theorem q_alloc {w : World} {base : Nat} {e : TypeId} {sz : Nat} {v : Value} {n : Nat} {xs : List Value} (h : QRow w base e sz v n xs) (o : Obj) : QRow (w.alloc o) base e sz v n xs :=
  q_below h ((Below.refl w.heap.size w).alloc (Nat.le_refl _) o) (Nat.le_refl _)
theorem q_set {w : World} {base : Nat} {e : TypeId} {sz : Nat} {v : Value} {n : Nat} {xs : List Value} (h : QRow w base e sz v n xs) {p : Addr} (hn : v.ownBlock ≠ some p.block) (u : Value) : QRow (w.setCell p u) base e sz v n xs := by
  refine ⟨h.1, h.2.1, ?_⟩
  rcases h.2.2 with h | ⟨g, off, cap, cur, hv, hb, hg, r⟩
  · exact .inl h
  · refine .inr ⟨g, off, cap, cur, hv, hb, ?_, r⟩
    rw [Below.heap_setCell w p u g (fun e => hn (by rw [hv, e]; rfl))]; exact hg
/-- The cells of a queue that is not empty. -/
theorem q_cells {w : World} {base : Nat} {e : TypeId} {sz : Nat} {v : Value} {n : Nat} {xs : List Value} (h : QRow w base e sz v n xs) (hn : 0 < n) :
    ∃ g off cap, v = .slice (some ⟨g, off, none⟩) n cap ∧ base ≤ g ∧ g < w.heap.size ∧ n ≤ cap ∧ (∀ j u, xs[j]? = some u → w.cell? ⟨g, off + j, none⟩ = some u) ∧ (∀ j, w.frozen? ⟨g, j, none⟩ = false) := by
  obtain ⟨hl, _, h⟩ := h
  rcases h with ⟨_, h⟩ | ⟨g, off, cap, cur, hv, hb, hg, h1, h2, h3, h4⟩
  · omega
  · refine ⟨g, off, cap, hv, hb, (Array.getElem?_eq_some_iff.1 hg).1, h1, ?_, ?_⟩
    · intro j u hj
      rw [← h4, List.getElem?_take] at hj
      split at hj
      · rw [List.getElem?_drop] at hj
        rw [cell_of_row w g (off + j) cur _ _ hg]; simpa using hj
      · cases hj
    · intro j; simp [World.frozen?, hg]
section
variable {P : Program}
theorem q_from {w : World} {base : Nat} {e : TypeId} {sz : Nat} {v : Value} {n : Nat} {xs : List Value} (t : TypeId) (i : TypeInfo) (ht : P.underlying t = some (.slice e)) (hi : P.info? e = some i) (hsz : i.size = sz) (h : QRow w base e sz v n xs) (kd : IntKind) (k : Nat) (hk : k ≤ n) :
    ∃ v', (∀ W, (Instr.slice t v (some (.int kd (k : Int))) none none).run P W = .ok v' W) ∧ QRow w base e sz v' (n - k) (xs.drop (k * sz)) ∧ v'.ownBlock = v.ownBlock := by
  obtain ⟨hl, hm, h⟩ := h
  have hl2 : (xs.drop (k * sz)).length = (n - k) * sz := by rw [List.length_drop, hl, Nat.sub_mul]
  rcases h with ⟨rfl, rfl⟩ | ⟨g, off, cap, cur, rfl, hb, hg, h1, h2, h3, h4⟩
  · obtain rfl : k = 0 := by omega
    refine ⟨.slice none 0 0, fun W => ?_, ⟨hl2, by omega, .inl ⟨rfl, rfl⟩⟩, rfl⟩
    simp [Instr.slice, Instr.sliceBounds, run_underlying ht, sizeOf, typeInfo, hi, go_sem]
  · by_cases hc : cap = k
    · refine ⟨.slice (some ⟨g, off, none⟩) (n - k) (cap - k), fun W => ?_, ⟨hl2, by omega, .inr ⟨g, off, cap - k, cur, rfl, hb, hg, by omega, by omega, ?_, ?_⟩⟩, rfl⟩
      · have : (k : Int) ≤ (n : Int) := by omega
        simp [Instr.slice, Instr.sliceBounds, run_underlying ht, sizeOf, typeInfo, hi, go_sem, this, hc]
      · rw [hc, Nat.sub_self, Nat.zero_mul]; omega
      · obtain rfl : n = k := by omega
        rw [← h4]
        simp
    · refine ⟨.slice (some ⟨g, off + k * sz, none⟩) (n - k) (cap - k), fun W => ?_, ⟨hl2, by omega, .inr ⟨g, off + k * sz, cap - k, cur, rfl, hb, hg, by omega, by omega, ?_, ?_⟩⟩, rfl⟩
      · have : (k : Int) ≤ (n : Int) := by omega
        have ha : (⟨g, off, none⟩ : Addr).add (k * sz) = ⟨g, off + k * sz, none⟩ := by unfold Addr.add; split <;> simp_all
        simp [Instr.slice, Instr.sliceBounds, run_underlying ht, sizeOf, typeInfo, hi, go_sem, this, hc, hsz, ha]
      · have : cap * sz = k * sz + (cap - k) * sz := by rw [← Nat.add_mul]; congr 1; omega
        omega
      · rw [← h4, List.drop_take, List.drop_drop]
        rw [Nat.sub_mul]
theorem q_upto {w : World} {base : Nat} {e : TypeId} {sz : Nat} {v : Value} {n : Nat} {xs : List Value} (t : TypeId) (i : TypeInfo) (ht : P.underlying t = some (.slice e)) (hi : P.info? e = some i) (hsz : i.size = sz) (h : QRow w base e sz v n xs) (kd : IntKind) (k : Nat) (hk : k ≤ n) :
    ∃ v', (∀ W, (Instr.slice t v none (some (.int kd (k : Int))) none).run P W = .ok v' W) ∧ QRow w base e sz v' k (xs.take (k * sz)) ∧ v'.ownBlock = v.ownBlock := by
  obtain ⟨hl, hm, h⟩ := h
  have hle : k * sz ≤ n * sz := Nat.mul_le_mul_right _ hk
  have hl2 : (xs.take (k * sz)).length = k * sz := by rw [List.length_take, hl]; omega
  rcases h with ⟨rfl, rfl⟩ | ⟨g, off, cap, cur, rfl, hb, hg, h1, h2, h3, h4⟩
  · obtain rfl : k = 0 := by omega
    refine ⟨.slice none 0 0, fun W => ?_, ⟨hl2, by omega, .inl ⟨rfl, rfl⟩⟩, rfl⟩
    simp [Instr.slice, Instr.sliceBounds, run_underlying ht, sizeOf, typeInfo, hi, go_sem]
  · refine ⟨.slice (some ⟨g, off, none⟩) k cap, fun W => ?_, ⟨hl2, by omega, .inr ⟨g, off, cap, cur, rfl, hb, hg, by omega, by omega, h3, ?_⟩⟩, rfl⟩
    · have h5 : (k : Int) ≤ (cap : Int) := by omega
      simp [Instr.slice, Instr.sliceBounds, run_underlying ht, sizeOf, typeInfo, hi, go_sem, h5, Addr.add]
    · rw [← h4, List.take_take, Nat.min_eq_left hle]
set_option maxHeartbeats 2000000 in
theorem run_append_q (w : World) (base : Nat) (t u ty E : TypeId) (sz bytes : Nat) (i : TypeInfo) (z : Value) (du : TypeDesc) (ht : P.underlying t = some (.slice E)) (hu : P.underlying u = some du) (hdu : du = .string ∨ ∃ e, du = .slice e)
    (hi : P.info? E = some i) (hz : i.zero = some z) (hzs : z.cells.size = sz) (hsize : i.size = sz) (hby : i.bytes = bytes)
    (v : Value) (n : Nat) (xs : List Value) (hrow : QRow w base E sz v n xs) (x : Value) (m : Nat) (news : List Value) (hl : news.length = m * sz) (hone : ∀ u ∈ news, u.oneCell' = true) (hx : (Builtin.lenOf x).run P w = .ok m w)
    (hf : ∀ w' : World, w'.heap = w.heap → (Builtin.firstCells sz m x).run P w' = .ok news.toArray w')
    (hlen : (n + m) * bytes ≤ 140737488355328) (hm63 : n + m ≤ maxLen) (hbase : base ≤ w.heap.size) :
    ∃ v' w', (Builtin.append_ #[t, u] ty #[v, x]).run P w = .ok v' w' ∧ QRow w' base E sz v' (n + m) (xs ++ news) ∧ Keep v.ownBlock.toList w w' ∧ (v'.ownBlock = v.ownBlock ∨ v'.ownBlock = some w.heap.size) := by
  have hrow0 := hrow
  obtain ⟨hxl, hnm, hrow⟩ := hrow
  have hl2 : (xs ++ news).length = (n + m) * sz := by rw [List.length_append, hxl, hl, Nat.add_mul]
  have grown : ∀ (old : Nat), old < n + m →
      QRow (w.drew.alloc (.cells (xs.toArray ++ news.toArray ++ Builtin.zeroCells z.cells (grownCap w (n + m) old E - (n + m))) E)) base E sz
        (.slice (some ⟨w.heap.size, 0, none⟩) (n + m) (grownCap w (n + m) old E)) (n + m) (xs ++ news) ∧
      ∀ S, Keep S w (w.drew.alloc (.cells (xs.toArray ++ news.toArray ++ Builtin.zeroCells z.cells (grownCap w (n + m) old E - (n + m))) E)) := by
    intro old ho
    have hge := grownCap_ge w (n + m) old E
    have hcm : grownCap w (n + m) old E ≤ maxLen := grownCap_le_maxLen w _ old _ hm63
    refine ⟨⟨hl2, hm63, .inr ⟨w.heap.size, 0, _, _, rfl, hbase, heap_alloc_new w.drew _, hge, hcm, ?_, ?_⟩⟩, fun S => (Keep.refl S w).drew.alloc _⟩
    · simp only [Array.size_append, List.size_toArray, size_zeroCells, hzs, hxl, hl, ← Nat.add_mul]
      rw [Nat.zero_add]
      exact Nat.mul_le_mul_right _ (by omega)
    · rw [List.drop_zero, ← hl2]
      simp [List.take_append, List.take_of_length_le]
  have hgrow : ∀ (a : Option Addr) (cap : Nat), v = .slice a n cap → ¬ (n + m ≤ cap) → cap ≤ maxLen →
      (∀ w' : World, w'.heap = w.heap → (Builtin.firstCells sz n v).run P w' = .ok xs.toArray w') →
      (Builtin.append_ #[t, u] ty #[v, x]).run P w = .ok (.slice (some ⟨w.heap.size, 0, none⟩) (n + m) (grownCap w (n + m) cap E))
        (w.drew.alloc (.cells (xs.toArray ++ news.toArray ++ Builtin.zeroCells z.cells (grownCap w (n + m) cap E - (n + m))) E)) := by
    rintro a cap rfl hn hcap hold
    have h63' : ¬ (9223372036854775807 < ((n : Int) + (m : Int))) := by unfold maxLen at hm63; omega
    have h48' : ¬ (281474976710656 < Builtin.nextslicecap (n + m) cap * i.bytes) := by
      have := growslice_fits (need := n + m) (old := cap) (bytes := i.bytes) (by omega) (by rw [hby]; omega)
      omega
    have hf1 := hf w.drew rfl
    have hf2 := hold w.drew rfl
    rcases hdu with rfl | ⟨e', rfl⟩ <;> simp [Builtin.append_, run_underlying ht, run_underlying hu, sizeOf, typeInfo, zeroValue, hi, hz, hsize, hx, hn, h63', h48', Question.forced, hf1, hf2, newRow, grownCap] <;> (congr 2; apply Array.ext'; simp [List.append_assoc])
  rcases hrow with ⟨rfl, rfl⟩ | ⟨g, off, cap, cur, rfl, hb, hg, hc, hcm, hcs, htk⟩
  · obtain rfl : xs = [] := List.eq_nil_of_length_eq_zero (by omega)
    by_cases hn : m = 0
    · subst hn
      obtain rfl : news = [] := List.eq_nil_of_length_eq_zero (by omega)
      refine ⟨.slice none 0 0, w, ?_, q_nil w base E sz, Keep.refl _ w, .inl rfl⟩
      have hf1 := hf w rfl
      rcases hdu with rfl | ⟨e', rfl⟩ <;> simp [Builtin.append_, run_underlying ht, run_underlying hu, sizeOf, typeInfo, hi, hsize, hx, hf1]
    · have hr := hgrow none 0 rfl (by omega) (by unfold maxLen; omega) (fun w' _ => by simp [Builtin.firstCells])
      have := grown 0 (by omega)
      exact ⟨_, _, hr, this.1, this.2 _, .inr rfl⟩
  · by_cases hroom : n + m ≤ cap
    · have hmz : (n + m) * sz ≤ cap * sz := Nat.mul_le_mul_right _ hroom
      have hnz : n * sz + m * sz = (n + m) * sz := (Nat.add_mul n m sz).symm
      have hst := run_storeCells_free P g (off + n * sz) E (0, 0) news 0 cur w hg (.inl rfl) (by rw [hl]; omega) hone
      simp only [Nat.add_zero] at hst
      have hf1 := hf w rfl
      have ha : (⟨g, off, none⟩ : Addr).add (n * sz) = ⟨g, off + n * sz, none⟩ := by unfold Addr.add; split <;> simp_all
      have hr : (Builtin.append_ #[t, u] ty #[.slice (some ⟨g, off, none⟩) n cap, x]).run P w =
          .ok (.slice (some ⟨g, off, none⟩) (n + m) cap) (w.setRow g (cur.toList.take (off + n * sz) ++ news ++ cur.toList.drop (off + n * sz + news.length)).toArray) := by
        rcases hdu with rfl | ⟨e', rfl⟩ <;> simp [Builtin.append_, run_underlying ht, run_underlying hu, sizeOf, typeInfo, hi, hsize, hx, hroom, hf1, ha, hst]
      have hcl : cur.toList.length = cur.size := by simp
      refine ⟨_, _, hr, ⟨hl2, hm63, .inr ⟨g, off, cap, _, rfl, hb, setRow_heap w g cur _ _ _ hg, hroom, hcm, ?_, ?_⟩⟩, ?_, .inl rfl⟩
      · simp only [List.size_toArray, List.length_append, List.length_take, List.length_drop, hl, hcl]; omega
      · have e1 : (cur.toList.take (off + n * sz)).drop off = xs := by
          rw [List.drop_take, show off + n * sz - off = n * sz by omega]; exact htk
        rw [List.append_assoc, List.drop_append_of_le_length (by rw [List.length_take]; omega), e1, ← List.append_assoc]
        rw [List.take_append_of_le_length (by rw [hl2]; exact Nat.le_refl _)]
        exact List.take_of_length_le (by rw [hl2]; exact Nat.le_refl _)
      · exact ⟨rfl, rfl, rfl, by simp, fun k _ hk => setRow_other w g k _ (fun e => hk (by simp [Value.ownBlock, e]))⟩
    · have hold : ∀ w' : World, w'.heap = w.heap → (Builtin.firstCells sz n (.slice (some ⟨g, off, none⟩) n cap)).run P w' = .ok xs.toArray w' := by
        intro w' hw'
        by_cases hn0 : n = 0
        · subst hn0
          obtain rfl : xs = [] := List.eq_nil_of_length_eq_zero (by omega)
          exact run_firstCells_some (P := P) w' sz 0 ⟨g, off, none⟩ 0 cap [] (by simp) (fun j u hj => by simp at hj)
        obtain ⟨g', off', cap', e1, _, _, _, hcc, _⟩ := q_cells hrow0 (by omega)
        obtain ⟨rfl, rfl⟩ : g' = g ∧ off' = off := by injection e1 with e1; injection e1 with e1; injection e1 with e1 e2; exact ⟨e1.symm, e2.symm⟩
        exact run_firstCells_some (P := P) w' sz n ⟨g', off', none⟩ n cap xs hxl (fun j u hj => by
          have hadd : (⟨g', off', none⟩ : Addr).add j = ⟨g', off' + j, none⟩ := by unfold Addr.add; split <;> simp_all
          rw [hadd, World.cell?_of_block (w := w) (by rw [hw'])]
          exact hcc j u hj)
      have hr := hgrow (some ⟨g, off, none⟩) cap rfl hroom hcm hold
      have := grown cap (by omega)
      exact ⟨_, _, hr, this.1, this.2 _, .inr rfl⟩
/-- Elements that lie in memory are appended. -/
theorem run_append_qc (w : World) (base : Nat) (t ty E : TypeId) (sz bytes : Nat) (i : TypeInfo) (z : Value) (ht : P.underlying t = some (.slice E))
    (hi : P.info? E = some i) (hz : i.zero = some z) (hzs : z.cells.size = sz) (hsize : i.size = sz) (hby : i.bytes = bytes)
    (v : Value) (n : Nat) (xs : List Value) (hrow : QRow w base E sz v n xs) (g off m c : Nat) (news : List Value) (hl : news.length = m * sz) (hone : ∀ u ∈ news, u.oneCell' = true) (hc : ∀ j u, news[j]? = some u → w.cell? ⟨g, off + j, none⟩ = some u)
    (hlen : (n + m) * bytes ≤ 140737488355328) (hm63 : n + m ≤ maxLen) (hbase : base ≤ w.heap.size) :
    ∃ v' w', (Builtin.append_ #[t, t] ty #[v, .slice (some ⟨g, off, none⟩) m c]).run P w = .ok v' w' ∧ QRow w' base E sz v' (n + m) (xs ++ news) ∧ Keep v.ownBlock.toList w w' ∧ (v'.ownBlock = v.ownBlock ∨ v'.ownBlock = some w.heap.size) :=
  run_append_q w base t t ty E sz bytes i z _ ht ht (.inr ⟨_, rfl⟩) hi hz hzs hsize hby v n xs hrow _ m news hl hone rfl (fun w' hw' =>
    run_firstCells_some (P := P) w' sz m ⟨g, off, none⟩ m c news hl (fun j u hj => by
      have hadd : (⟨g, off, none⟩ : Addr).add j = ⟨g, off + j, none⟩ := by unfold Addr.add; split <;> simp_all
      rw [hadd, World.cell?_of_block (w := w) (by rw [hw'])]
      exact hc j u hj)) hlen hm63 hbase
theorem wpList_append_q {ops : Array Oper} {rest : List Oper} {o : Oper} {a : Act} {Q : Exit → Act → World → Prop} (w : World) (hgd : o.guard = none) (s x : Operand) (t E : TypeId) (sz bytes : Nat) (i : TypeInfo) (z : Value)
    (ho : o.op = .call { callee := .builtin .append, args := #[s, x], argTypes := #[t, t] }) (ht : P.underlying t = some (.slice E))
    (hi : P.info? E = some i) (hz : i.zero = some z) (hzs : z.cells.size = sz) (hsize : i.size = sz) (hby : i.bytes = bytes)
    (base : Nat) (v : Value) (n : Nat) (xs : List Value) (hs : a.eval s = v) (hrow : QRow w base E sz v n xs) (g off m c : Nat) (news : List Value) (hx : a.eval x = .slice (some ⟨g, off, none⟩) m c) (hl : news.length = m * sz) (hone : ∀ u ∈ news, u.oneCell' = true) (hc : ∀ j u, news[j]? = some u → w.cell? ⟨g, off + j, none⟩ = some u)
    (hlen : (n + m) * bytes ≤ 140737488355328) (hm63 : n + m ≤ maxLen) (hbase : base ≤ w.heap.size)
    (h : ∀ v' w', QRow w' base E sz v' (n + m) (xs ++ news) → Keep v.ownBlock.toList w w' → (v'.ownBlock = v.ownBlock ∨ v'.ownBlock = some w.heap.size) → wpList P ops Q rest (a.put o.dst v') w') : wpList P ops Q (o :: rest) a w := by
  refine wpList_plain hgd fun K hK => ?_
  obtain ⟨v', w', hr, h2, h3, h4⟩ := run_append_qc (P := P) w base t o.type E sz bytes i z ht hi hz hzs hsize hby v n xs hrow g off m c news hl hone hc hlen hm63 hbase
  unfold Oper.wp execOp
  simp only [ho, resolve, invoke, builtin, Sem.run_bind, Sem.run_pure, Result.andThen_ok, List.map_toArray, List.map_cons, List.map_nil, hs, hx, hr]
  exact hK _ _ (h v' w' h2 h3 h4)
end
end
end Go.Proofs.YtgopighmifpefaaGreatDoor
