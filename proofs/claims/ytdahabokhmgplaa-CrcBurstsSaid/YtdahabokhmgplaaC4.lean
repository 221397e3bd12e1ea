/- What is proved here: walks of the checksums' matrices: a step applied, a step done twice, so many bytes of zero, joining. -/
import Derived.Test.YtdahabokhmgplaaC3
set_option linter.unusedVariables false
set_option linter.unusedSimpArgs false
namespace Go.Proofs.Ytdahabokhmgplaa
open Go.RowKit
theorem and1_i64 (k : Nat) (h : k < 9223372036854775808) : bits .and .i64 (k : Int) 1 = ((k % 2 : Nat) : Int) := by
  have h1 : (BitVec.ofInt 64 (k : Int) &&& BitVec.ofInt 64 1).toNat = k % 2 := by
    rw [BitVec.toNat_and, BitVec.ofInt_natCast, BitVec.toNat_ofNat, Nat.mod_eq_of_lt (by omega), show (BitVec.ofInt 64 1).toNat = 1 by decide]
    exact Nat.and_one_is_mod k
  show IntKind.i64.wrap ((BitVec.ofInt 64 (k : Int) &&& BitVec.ofInt 64 1).toNat : Int) = _
  rw [h1, IntWalk.i64_in _ (by omega)]
theorem bit16_is (r : BitVec 16) (k : Nat) : (bits .and .u16 (w16 r / 2 ^ k) 1 == 1) = r.getLsbD k := by
  have h := w16_shr r k
  have h2 : ((2 ^ k : Nat) : Int) = 2 ^ k := by simp
  rw [h2] at h
  rw [h, w16_and_lit, show BitVec.ofInt 16 1 = 1#16 by decide]
  have e : (r >>> k) &&& 1#16 = if r.getLsbD k then 1#16 else 0#16 := by
    apply BitVec.eq_of_getLsbD_eq; intro i hi
    rw [BitVec.getLsbD_and, BitVec.getLsbD_ushiftRight]
    by_cases h0 : i = 0
    · subst h0; split <;> simp_all
    · split <;> simp [h0]
  rw [e]; split <;> simp_all <;> decide
def mat16 (w : World) (g : Nat) (m : List (BitVec 16)) : Prop := m.length = 16 ∧ Blk w g (m.map v16) 22
theorem mat16_at {w : World} {g : Nat} {m : List (BitVec 16)} (h : mat16 w g m) (k : Nat) (hk : k < 16) : w.cell? ⟨g, k, none⟩ = some (.int .u16 (w16 (m.getD k 0#16))) := by
  rw [h.2.cell k]
  have : k < m.length := by rw [h.1]; exact hk
  simp [this, v16]
set_option maxHeartbeats 2000000 in
theorem times16_any (m : List (BitVec 16)) (g : Nat) (r : BitVec 16) (w : World) (hm : mat16 w g m) :
    Calls Try.prog 36 #[.slice (some ⟨g, 0, none⟩) 16 16, .int .u16 (w16 r)] w fun e w' => e = .returned (.int .u16 (w16 (mulK m r 16))) ∧ w = w' := by
  have HM := Lib.hid hm; clear hm
  go_enter Try.func36, Try.ntmps36
  go_wp2_with fail
  go_loop [5, 10] (fun x i => ∃ k : Nat, k ≤ 16 ∧ i = .int .i64 k ∧ x = .int .u16 (w16 (mulK m r k))) (fun _ i => 16 - (intOf i).toNat)
  case atStart => exact ⟨0, by omega, rfl, rfl⟩
  case round =>
    obtain ⟨k, hk, rfl, rfl⟩ := hrel
    by_cases hlt : k < 16
    · have c0 := mat16_at HM.out k hlt
      by_cases hb : r.getLsbD k = true
      · have hbit : (bits .and .u16 (w16 r / 2 ^ k) 1 == 1) = true := by rw [bit16_is, hb]
        have hs : mulK m r (k + 1) = mulK m r k ^^^ m.getD k 0#16 := by rw [mulK, hb]; rfl
        have HS := Lib.hid hs; clear hs hb
        go_wp2_with fail
        go_round
        case rel => exact ⟨k + 1, by omega, by go_num, by rw [HS.out]; try simp only [List.getD_eq_getElem?_getD]⟩
        case measure => simp [intOf]; omega
      · have hb' : r.getLsbD k = false := by simpa using hb
        have hbit : (bits .and .u16 (w16 r / 2 ^ k) 1 == 1) = false := by rw [bit16_is, hb']
        have hs : mulK m r (k + 1) = mulK m r k := by rw [mulK, hb']; simp
        have HS := Lib.hid hs; clear hs hb hb'
        go_wp2_with fail
        go_round
        case rel => exact ⟨k + 1, by omega, by go_num, by rw [HS.out]; try simp only [List.getD_eq_getElem?_getD]⟩
        case measure => simp [intOf]; omega
    · obtain rfl : k = 16 := by omega
      go_wp2_with fail
      go_ret
      exact ⟨rfl, rfl⟩
theorem bit32_is (r : BitVec 32) (k : Nat) : (bits .and .u32 (w32 r / 2 ^ k) 1 == 1) = r.getLsbD k := by
  have h := w32_shr r k
  have h2 : ((2 ^ k : Nat) : Int) = 2 ^ k := by simp
  rw [h2] at h
  rw [h, w32_and_lit, show BitVec.ofInt 32 1 = 1#32 by decide]
  have e : (r >>> k) &&& 1#32 = if r.getLsbD k then 1#32 else 0#32 := by
    apply BitVec.eq_of_getLsbD_eq; intro i hi
    rw [BitVec.getLsbD_and, BitVec.getLsbD_ushiftRight]
    by_cases h0 : i = 0
    · subst h0; split <;> simp_all
    · split <;> simp [h0]
  rw [e]; split <;> simp_all <;> decide
def mat32 (w : World) (g : Nat) (m : List (BitVec 32)) : Prop := m.length = 32 ∧ Blk w g (m.map v32) 23
theorem mat32_at {w : World} {g : Nat} {m : List (BitVec 32)} (h : mat32 w g m) (k : Nat) (hk : k < 32) : w.cell? ⟨g, k, none⟩ = some (.int .u32 (w32 (m.getD k 0#32))) := by
  rw [h.2.cell k]
  have : k < m.length := by rw [h.1]; exact hk
  simp [this, v32]
set_option maxHeartbeats 2000000 in
theorem times32_any (m : List (BitVec 32)) (g : Nat) (r : BitVec 32) (w : World) (hm : mat32 w g m) :
    Calls Try.prog 39 #[.slice (some ⟨g, 0, none⟩) 32 32, .int .u32 (w32 r)] w fun e w' => e = .returned (.int .u32 (w32 (mulK m r 32))) ∧ w = w' := by
  have HM := Lib.hid hm; clear hm
  go_enter Try.func39, Try.ntmps39
  go_wp2_with fail
  go_loop [5, 10] (fun x i => ∃ k : Nat, k ≤ 32 ∧ i = .int .i64 k ∧ x = .int .u32 (w32 (mulK m r k))) (fun _ i => 32 - (intOf i).toNat)
  case atStart => exact ⟨0, by omega, rfl, rfl⟩
  case round =>
    obtain ⟨k, hk, rfl, rfl⟩ := hrel
    by_cases hlt : k < 32
    · have c0 := mat32_at HM.out k hlt
      by_cases hb : r.getLsbD k = true
      · have hbit : (bits .and .u32 (w32 r / 2 ^ k) 1 == 1) = true := by rw [bit32_is, hb]
        have hs : mulK m r (k + 1) = mulK m r k ^^^ m.getD k 0#32 := by rw [mulK, hb]; rfl
        have HS := Lib.hid hs; clear hs hb
        go_wp2_with fail
        go_round
        case rel => exact ⟨k + 1, by omega, by go_num, by rw [HS.out]; try simp only [List.getD_eq_getElem?_getD]⟩
        case measure => simp [intOf]; omega
      · have hb' : r.getLsbD k = false := by simpa using hb
        have hbit : (bits .and .u32 (w32 r / 2 ^ k) 1 == 1) = false := by rw [bit32_is, hb']
        have hs : mulK m r (k + 1) = mulK m r k := by rw [mulK, hb']; simp
        have HS := Lib.hid hs; clear hs hb hb'
        go_wp2_with fail
        go_round
        case rel => exact ⟨k + 1, by omega, by go_num, by rw [HS.out]; try simp only [List.getD_eq_getElem?_getD]⟩
        case measure => simp [intOf]; omega
    · obtain rfl : k = 32 := by omega
      go_wp2_with fail
      go_ret
      exact ⟨rfl, rfl⟩
def fill16 (f : Nat → BitVec 16) (k : Nat) : List (BitVec 16) := (List.range 16).map fun i => if i < k then f i else 0#16
theorem fill16_set (f : Nat → BitVec 16) (k : Nat) (h : k < 16) : ((fill16 f k).map v16).set k (v16 (f k)) = (fill16 f (k + 1)).map v16 := by
  apply List.ext_getElem
  · simp [fill16]
  · intro i h1 h2
    simp only [fill16, List.getElem_set, List.getElem_map, List.getElem_range]
    by_cases e : k = i
    · subst e; simp
    · rw [if_neg e]; congr 1; by_cases h3 : i < k
      · rw [if_pos h3, if_pos (by omega)]
      · rw [if_neg h3, if_neg (by omega)]
theorem fill16_all (f : Nat → BitVec 16) : fill16 f 16 = (List.range 16).map f := by
  apply List.map_congr_left; intro i hi; rw [if_pos (by simpa using hi)]
theorem fill16_cell {w : World} {g : Nat} {f : Nat → BitVec 16} {k : Nat} (h : Blk w g ((fill16 f k).map v16) 22) (i : Nat) (hi : i < 16) : ∃ u, w.cell? ⟨g, i, none⟩ = some u := by
  rw [h.cell i]; exact ⟨_, List.getElem?_eq_getElem (by simp [fill16]; exact hi)⟩
theorem make0_16 : ∀ w : World, (Instr.makeSlice 54 (.int .i64 16) (.int .i64 16)).run Try.prog w = .ok (.slice (some ⟨w.heap.size, 0, none⟩) 16 16) (w.alloc (.cells ((List.range 16).map fun _ => v16 0#16).toArray 22)) := fun _ => by kernel_rfl
theorem make16 (f : Nat → BitVec 16) : ∀ w : World, (Instr.makeSlice 54 (.int .i64 16) (.int .i64 16)).run Try.prog w = .ok (.slice (some ⟨w.heap.size, 0, none⟩) 16 16) (w.alloc (.cells ((fill16 f 0).map v16).toArray 22)) := by
  intro w
  have h : ((fill16 f 0).map v16) = ((List.range 16).map fun _ => v16 0#16) := by simp [fill16]
  rw [h]; exact make0_16 w
set_option maxHeartbeats 2000000 in
theorem twice16_any (m : List (BitVec 16)) (g : Nat) (w : World) (hm : mat16 w g m) :
    Calls Try.prog 37 #[.slice (some ⟨g, 0, none⟩) 16 16] w fun e w' => ∃ g', e = .returned (.slice (some ⟨g', 0, none⟩) 16 16) ∧ w.heap.size ≤ g' ∧ Below w.heap.size w w' ∧ mat16 w' g' (m.map fun x => mulK m x 16) := by
  have hmk := make16 (fun i => mulK m (m.getD i 0#16) 16)
  have hml := hm.1
  have hgl := hm.2.lt
  have HM := Lib.hid hm; clear hm
  have Hml := Lib.hid hml; clear hml
  go_enter Try.func37, Try.ntmps37
  go_wp2_with fail
  refine gen_world (fun w' => Below w.heap.size w w' ∧ Blk w' w.heap.size ((fill16 (fun i => mulK m (m.getD i 0#16) 16) 0).map v16) 22) ⟨(Below.refl _ _).alloc (Nat.le_refl _) _, Blk.new w _ _⟩ ?_
  clear hmk
  rintro w1 ⟨hL1, hB1⟩
  have HL1 := Lib.hid hL1; have HB1 := Lib.hid hB1; clear hL1 hB1
  go_loopw [11] (fun i wr => ∃ k : Nat, k ≤ 16 ∧ i = .int .i64 k ∧ Below w.heap.size w wr ∧ Blk wr w.heap.size ((fill16 (fun i => mulK m (m.getD i 0#16) 16) k).map v16) 22) (fun i _ => 16 - (intOf i).toNat)
  case atStart => exact ⟨0, by omega, rfl, HL1.out, HB1.out⟩
  case round =>
    obtain ⟨k, hk, rfl, hL, hB⟩ := hrel
    have hM : mat16 wr g m := ⟨Hml.out, HM.out.2.below hL hgl⟩
    by_cases hlt : k < 16
    · have c0 := mat16_at hM k hlt
      obtain ⟨u, c1⟩ := fill16_cell hB k hlt
      have f1 : wr.frozen? ⟨w.heap.size, k, none⟩ = false := hB.free k
      have HL := Lib.hid hL; have HB := Lib.hid hB; have HM2 := Lib.hid hM; clear hL hB hM
      have hgw : g ≠ w.heap.size := by omega
      go_wp2_with fail
      rw [← List.getD_eq_getElem?_getD]
      refine (times16_any m g (m.getD k 0#16) wr HM2.out).mono ?_
      obtain ⟨x, hx⟩ : ∃ x, x = mulK m (m.getD k 0#16) 16 := ⟨_, rfl⟩
      rw [← hx]
      rintro e w2 ⟨rfl, rfl⟩
      have HX := Lib.hid hx; clear hx
      go_wp2_with fail
      go_roundw
      case rel => exact ⟨k + 1, by omega, by go_num, HL.out.setCell (Nat.le_refl _) _, by rw [← fill16_set _ k hlt, ← HX.out]; exact HB.out.set k _⟩
      case measure => simp [intOf]; omega
    · obtain rfl : k = 16 := by omega
      have HL := Lib.hid hL; have HB := Lib.hid hB; clear hL hB hM
      go_wp2_with fail
      go_ret
      refine ⟨w.heap.size, rfl, Nat.le_refl _, HL.out, by simp [Hml.out], ?_⟩
      have e1 : (m.map fun x => mulK m x 16) = fill16 (fun i => mulK m (m.getD i 0#16) 16) 16 := by
        rw [fill16_all]
        apply List.ext_getElem
        · simp [Hml.out]
        · intro i h1 h2
          have : i < m.length := by simpa using h1
          simp [this]
      rw [e1]; exact HB.out
set_option maxHeartbeats 2000000 in
theorem zeros16_any (f : BitVec 16 → BitVec 16) (hf : Lin f) (g : Nat) (r : BitVec 16) (n : Nat) (hn : n ≤ 1073741824) (w : World) (hm : mat16 w g (matOf f)) :
    Calls Try.prog 32 #[.slice (some ⟨g, 0, none⟩) 16 16, .int .u16 (w16 r), .int .i64 n] w fun e w' => e = .returned (.int .u16 (w16 (iter f n r))) ∧ Below w.heap.size w w' := by
  have HM := Lib.hid hm; clear hm
  have HF := Lib.hid hf; clear hf
  go_enter Try.func32, Try.ntmps32
  go_wp2_with fail
  go_loopw [0, 1, 2] (fun ms x i wr => ∃ (h : BitVec 16 → BitVec 16) (g1 k : Nat) (y : BitVec 16), Lin h ∧ k ≤ n ∧ ms = .slice (some ⟨g1, 0, none⟩) 16 16 ∧ i = .int .i64 k ∧ x = .int .u16 (w16 y) ∧ iter h k y = iter f n r ∧ mat16 wr g1 (matOf h) ∧ Below w.heap.size w wr) (fun _ _ i _ => (intOf i).toNat)
  case atStart => exact ⟨f, g, n, r, HF.out, Nat.le_refl _, rfl, rfl, rfl, rfl, HM.out, Below.refl _ _⟩
  case round =>
    obtain ⟨h, g1, k, y, hh, hk, rfl, rfl, rfl, he, hM, hL⟩ := hrel
    have HH := Lib.hid hh; have HE := Lib.hid he; have HM2 := Lib.hid hM; have HL := Lib.hid hL; clear hh he hM hL
    by_cases hpos : 0 < k
    · have hit := iter_half h k y
      have hg : ((0 : Int) < (k : Int)) := by omega
      have hand := and1_i64 k (by omega)
      by_cases ho : k % 2 = 1
      · rw [if_pos ho, HE.out] at hit
        have hand2 : bits .and .i64 (k : Int) 1 = 1 := by rw [hand, ho]; rfl
        have HIT := Lib.hid hit; have HO := Lib.hid ho; clear hit ho hand
        go_wp2_with fail
        refine (times16_any (matOf h) g1 y wr HM2.out).mono ?_
        rw [mulK_all HH.out]
        rintro e w1 ⟨rfl, rfl⟩
        go_wp2_with fail
        refine (twice16_any (matOf h) g1 wr HM2.out).mono ?_
        rw [mat_twice HH.out]
        rintro e w1 ⟨g2, rfl, hg2, hL2, hM2⟩
        have HL2 := Lib.hid (HL.out.trans (hL2.mono HL.out.size)); have HM3 := Lib.hid hM2; clear hL2 hM2
        go_wp2_with fail
        go_roundw
        case rel => exact ⟨fun x => h (h x), g2, k / 2, h y, HH.out.comp HH.out, by omega, rfl, by simp, rfl, HIT.out.symm, HM3.out, HL2.out⟩
        case measure => simp [intOf]; omega
      · rw [if_neg ho, HE.out] at hit
        have hand2 : bits .and .i64 (k : Int) 1 = 0 := by rw [hand, show k % 2 = 0 by omega]; rfl
        have HIT := Lib.hid hit; have HO := Lib.hid ho; clear hit ho hand
        go_wp2_with fail
        refine (twice16_any (matOf h) g1 wr HM2.out).mono ?_
        rw [mat_twice HH.out]
        rintro e w1 ⟨g2, rfl, hg2, hL2, hM2⟩
        have HL2 := Lib.hid (HL.out.trans (hL2.mono HL.out.size)); have HM3 := Lib.hid hM2; clear hL2 hM2
        go_wp2_with fail
        go_roundw
        case rel => exact ⟨fun x => h (h x), g2, k / 2, y, HH.out.comp HH.out, by omega, rfl, by simp, rfl, HIT.out.symm, HM3.out, HL2.out⟩
        case measure => simp [intOf]; omega
    · obtain rfl : k = 0 := by omega
      have e1 : y = iter f n r := HE.out
      have E1 := Lib.hid e1; clear e1
      go_wp2_with fail
      go_ret
      exact ⟨by rw [← E1.out]; rfl, HL.out⟩
def fill32 (f : Nat → BitVec 32) (k : Nat) : List (BitVec 32) := (List.range 32).map fun i => if i < k then f i else 0#32
theorem fill32_set (f : Nat → BitVec 32) (k : Nat) (h : k < 32) : ((fill32 f k).map v32).set k (v32 (f k)) = (fill32 f (k + 1)).map v32 := by
  apply List.ext_getElem
  · simp [fill32]
  · intro i h1 h2
    simp only [fill32, List.getElem_set, List.getElem_map, List.getElem_range]
    by_cases e : k = i
    · subst e; simp
    · rw [if_neg e]; congr 1; by_cases h3 : i < k
      · rw [if_pos h3, if_pos (by omega)]
      · rw [if_neg h3, if_neg (by omega)]
theorem fill32_all (f : Nat → BitVec 32) : fill32 f 32 = (List.range 32).map f := by
  apply List.map_congr_left; intro i hi; rw [if_pos (by simpa using hi)]
theorem fill32_cell {w : World} {g : Nat} {f : Nat → BitVec 32} {k : Nat} (h : Blk w g ((fill32 f k).map v32) 23) (i : Nat) (hi : i < 32) : ∃ u, w.cell? ⟨g, i, none⟩ = some u := by
  rw [h.cell i]; exact ⟨_, List.getElem?_eq_getElem (by simp [fill32]; exact hi)⟩
theorem make0_32 : ∀ w : World, (Instr.makeSlice 58 (.int .i64 32) (.int .i64 32)).run Try.prog w = .ok (.slice (some ⟨w.heap.size, 0, none⟩) 32 32) (w.alloc (.cells ((List.range 32).map fun _ => v32 0#32).toArray 23)) := fun _ => by kernel_rfl
theorem make32 (f : Nat → BitVec 32) : ∀ w : World, (Instr.makeSlice 58 (.int .i64 32) (.int .i64 32)).run Try.prog w = .ok (.slice (some ⟨w.heap.size, 0, none⟩) 32 32) (w.alloc (.cells ((fill32 f 0).map v32).toArray 23)) := by
  intro w
  have h : ((fill32 f 0).map v32) = ((List.range 32).map fun _ => v32 0#32) := by simp [fill32]
  rw [h]; exact make0_32 w
set_option maxHeartbeats 2000000 in
theorem twice32_any (m : List (BitVec 32)) (g : Nat) (w : World) (hm : mat32 w g m) :
    Calls Try.prog 40 #[.slice (some ⟨g, 0, none⟩) 32 32] w fun e w' => ∃ g', e = .returned (.slice (some ⟨g', 0, none⟩) 32 32) ∧ w.heap.size ≤ g' ∧ Below w.heap.size w w' ∧ mat32 w' g' (m.map fun x => mulK m x 32) := by
  have hmk := make32 (fun i => mulK m (m.getD i 0#32) 32)
  have hml := hm.1
  have hgl := hm.2.lt
  have HM := Lib.hid hm; clear hm
  have Hml := Lib.hid hml; clear hml
  go_enter Try.func40, Try.ntmps40
  go_wp2_with fail
  refine gen_world (fun w' => Below w.heap.size w w' ∧ Blk w' w.heap.size ((fill32 (fun i => mulK m (m.getD i 0#32) 32) 0).map v32) 23) ⟨(Below.refl _ _).alloc (Nat.le_refl _) _, Blk.new w _ _⟩ ?_
  clear hmk
  rintro w1 ⟨hL1, hB1⟩
  have HL1 := Lib.hid hL1; have HB1 := Lib.hid hB1; clear hL1 hB1
  go_loopw [11] (fun i wr => ∃ k : Nat, k ≤ 32 ∧ i = .int .i64 k ∧ Below w.heap.size w wr ∧ Blk wr w.heap.size ((fill32 (fun i => mulK m (m.getD i 0#32) 32) k).map v32) 23) (fun i _ => 32 - (intOf i).toNat)
  case atStart => exact ⟨0, by omega, rfl, HL1.out, HB1.out⟩
  case round =>
    obtain ⟨k, hk, rfl, hL, hB⟩ := hrel
    have hM : mat32 wr g m := ⟨Hml.out, HM.out.2.below hL hgl⟩
    by_cases hlt : k < 32
    · have c0 := mat32_at hM k hlt
      obtain ⟨u, c1⟩ := fill32_cell hB k hlt
      have f1 : wr.frozen? ⟨w.heap.size, k, none⟩ = false := hB.free k
      have HL := Lib.hid hL; have HB := Lib.hid hB; have HM2 := Lib.hid hM; clear hL hB hM
      have hgw : g ≠ w.heap.size := by omega
      go_wp2_with fail
      rw [← List.getD_eq_getElem?_getD]
      refine (times32_any m g (m.getD k 0#32) wr HM2.out).mono ?_
      obtain ⟨x, hx⟩ : ∃ x, x = mulK m (m.getD k 0#32) 32 := ⟨_, rfl⟩
      rw [← hx]
      rintro e w2 ⟨rfl, rfl⟩
      have HX := Lib.hid hx; clear hx
      go_wp2_with fail
      go_roundw
      case rel => exact ⟨k + 1, by omega, by go_num, HL.out.setCell (Nat.le_refl _) _, by rw [← fill32_set _ k hlt, ← HX.out]; exact HB.out.set k _⟩
      case measure => simp [intOf]; omega
    · obtain rfl : k = 32 := by omega
      have HL := Lib.hid hL; have HB := Lib.hid hB; clear hL hB hM
      go_wp2_with fail
      go_ret
      refine ⟨w.heap.size, rfl, Nat.le_refl _, HL.out, by simp [Hml.out], ?_⟩
      have e1 : (m.map fun x => mulK m x 32) = fill32 (fun i => mulK m (m.getD i 0#32) 32) 32 := by
        rw [fill32_all]
        apply List.ext_getElem
        · simp [Hml.out]
        · intro i h1 h2
          have : i < m.length := by simpa using h1
          simp [this]
      rw [e1]; exact HB.out
set_option maxHeartbeats 2000000 in
theorem zeros32_any (f : BitVec 32 → BitVec 32) (hf : Lin f) (g : Nat) (r : BitVec 32) (n : Nat) (hn : n ≤ 1073741824) (w : World) (hm : mat32 w g (matOf f)) :
    Calls Try.prog 34 #[.slice (some ⟨g, 0, none⟩) 32 32, .int .u32 (w32 r), .int .i64 n] w fun e w' => e = .returned (.int .u32 (w32 (iter f n r))) ∧ Below w.heap.size w w' := by
  have HM := Lib.hid hm; clear hm
  have HF := Lib.hid hf; clear hf
  go_enter Try.func34, Try.ntmps34
  go_wp2_with fail
  go_loopw [0, 1, 2] (fun ms x i wr => ∃ (h : BitVec 32 → BitVec 32) (g1 k : Nat) (y : BitVec 32), Lin h ∧ k ≤ n ∧ ms = .slice (some ⟨g1, 0, none⟩) 32 32 ∧ i = .int .i64 k ∧ x = .int .u32 (w32 y) ∧ iter h k y = iter f n r ∧ mat32 wr g1 (matOf h) ∧ Below w.heap.size w wr) (fun _ _ i _ => (intOf i).toNat)
  case atStart => exact ⟨f, g, n, r, HF.out, Nat.le_refl _, rfl, rfl, rfl, rfl, HM.out, Below.refl _ _⟩
  case round =>
    obtain ⟨h, g1, k, y, hh, hk, rfl, rfl, rfl, he, hM, hL⟩ := hrel
    have HH := Lib.hid hh; have HE := Lib.hid he; have HM2 := Lib.hid hM; have HL := Lib.hid hL; clear hh he hM hL
    by_cases hpos : 0 < k
    · have hit := iter_half h k y
      have hg : ((0 : Int) < (k : Int)) := by omega
      have hand := and1_i64 k (by omega)
      by_cases ho : k % 2 = 1
      · rw [if_pos ho, HE.out] at hit
        have hand2 : bits .and .i64 (k : Int) 1 = 1 := by rw [hand, ho]; rfl
        have HIT := Lib.hid hit; have HO := Lib.hid ho; clear hit ho hand
        go_wp2_with fail
        refine (times32_any (matOf h) g1 y wr HM2.out).mono ?_
        rw [mulK_all HH.out]
        rintro e w1 ⟨rfl, rfl⟩
        go_wp2_with fail
        refine (twice32_any (matOf h) g1 wr HM2.out).mono ?_
        rw [mat_twice HH.out]
        rintro e w1 ⟨g2, rfl, hg2, hL2, hM2⟩
        have HL2 := Lib.hid (HL.out.trans (hL2.mono HL.out.size)); have HM3 := Lib.hid hM2; clear hL2 hM2
        go_wp2_with fail
        go_roundw
        case rel => exact ⟨fun x => h (h x), g2, k / 2, h y, HH.out.comp HH.out, by omega, rfl, by simp, rfl, HIT.out.symm, HM3.out, HL2.out⟩
        case measure => simp [intOf]; omega
      · rw [if_neg ho, HE.out] at hit
        have hand2 : bits .and .i64 (k : Int) 1 = 0 := by rw [hand, show k % 2 = 0 by omega]; rfl
        have HIT := Lib.hid hit; have HO := Lib.hid ho; clear hit ho hand
        go_wp2_with fail
        refine (twice32_any (matOf h) g1 wr HM2.out).mono ?_
        rw [mat_twice HH.out]
        rintro e w1 ⟨g2, rfl, hg2, hL2, hM2⟩
        have HL2 := Lib.hid (HL.out.trans (hL2.mono HL.out.size)); have HM3 := Lib.hid hM2; clear hL2 hM2
        go_wp2_with fail
        go_roundw
        case rel => exact ⟨fun x => h (h x), g2, k / 2, y, HH.out.comp HH.out, by omega, rfl, by simp, rfl, HIT.out.symm, HM3.out, HL2.out⟩
        case measure => simp [intOf]; omega
    · obtain rfl : k = 0 := by omega
      have e1 : y = iter f n r := HE.out
      have E1 := Lib.hid e1; clear e1
      go_wp2_with fail
      go_ret
      exact ⟨by rw [← E1.out]; rfl, HL.out⟩
end Go.Proofs.Ytdahabokhmgplaa
