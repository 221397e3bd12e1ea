/- What is proved here: walks of the reference of the checksums: matrices, joining. -/
import Derived.Test.YtdahabokhmgplaaC5
import Derived.Test.YtdahabokhmgplaaC6
import Derived.Deep.RegionWith
set_option linter.unusedVariables false
set_option linter.unusedSimpArgs false
namespace Go.Proofs.Ytdahabokhmgplaa
open Go.RowKit
attribute [local go_sem] not16 not32
theorem bitm16_is (r : BitVec 16) (k : Nat) : (w16 r / 2 ^ k % 2 == 1) = r.getLsbD k ∧ ((w16 r / 2 ^ k).tmod 2 == 1) = r.getLsbD k := by
  have h2 : (w16 r / 2 ^ k) = ((r.toNat / 2 ^ k : Nat) : Int) := by simp [w16]
  have h3 : r.getLsbD k = decide (r.toNat / 2 ^ k % 2 = 1) := by rw [BitVec.getLsbD, Nat.testBit_eq_decide_div_mod_eq]
  rw [h2, h3, Int.tmod_eq_emod_of_nonneg (Int.natCast_nonneg _)]
  have : (((r.toNat / 2 ^ k : Nat) : Int) % 2 == 1) = decide (r.toNat / 2 ^ k % 2 = 1) := by
    by_cases h : r.toNat / 2 ^ k % 2 = 1
    · simp only [h, decide_true]; rw [beq_iff_eq]; omega
    · simp only [h, decide_false]; rw [beq_eq_false_iff_ne]; omega
  exact ⟨this, this⟩
set_option maxHeartbeats 2000000 in
theorem rtimes16 (m : List (BitVec 16)) (hm : m.length = 16) (r : BitVec 16) (w : World) :
    Calls Try.prog 38 #[.agg (m.map v16).toArray, .int .u16 (w16 r)] w fun e w' => e = .returned (.int .u16 (w16 (mulK m r 16))) ∧ Below w.heap.size w w' := by
  have HM := Lib.hid hm; clear hm
  go_enter Try.func38, Try.ntmps38
  go_wp2_with fail
  refine gen_world (fun w' => Below w.heap.size w w' ∧ Blk w' w.heap.size (m.map v16) 63) ⟨(Below.refl _ _).alloc (Nat.le_refl _) _, Blk.new w _ _⟩ ?_
  rintro w1 ⟨hL1, hB1⟩
  have HL1 := Lib.hid hL1; have HB1 := Lib.hid hB1; clear hL1 hB1
  go_loop [5, 6] (fun x i => ∃ k : Nat, k ≤ 16 ∧ i = .int .i64 k ∧ x = .int .u16 (w16 (mulK m r k))) (fun _ i => 16 - (intOf i).toNat)
  case atStart => exact ⟨0, by omega, rfl, rfl⟩
  case round =>
    obtain ⟨k, hk, rfl, rfl⟩ := hrel
    by_cases hlt : k < 16
    · have c0 : w1.cell? ⟨w.heap.size, k, none⟩ = some (.int .u16 (w16 (m.getD k 0#16))) := by
        rw [HB1.out.cell k]
        have : k < m.length := by rw [HM.out]; exact hlt
        simp [this, v16]
      obtain ⟨hb1, hb2⟩ := bitm16_is r k
      by_cases hb : r.getLsbD k = true
      · have hs : mulK m r (k + 1) = mulK m r k ^^^ m.getD k 0#16 := by rw [mulK, hb]; rfl
        rw [hb] at hb1 hb2
        have HS := Lib.hid hs; clear hs hb
        go_wp2_with fail
        go_round
        case rel => exact ⟨k + 1, by omega, by go_num, by rw [HS.out]; try simp only [List.getD_eq_getElem?_getD]⟩
        case measure => simp [intOf]; omega
      · have hb' : r.getLsbD k = false := by simpa using hb
        have hs : mulK m r (k + 1) = mulK m r k := by rw [mulK, hb']; simp
        rw [hb'] at hb1 hb2
        have HS := Lib.hid hs; clear hs hb hb'
        go_wp2_with fail
        go_round
        case rel => exact ⟨k + 1, by omega, by go_num, by rw [HS.out]⟩
        case measure => simp [intOf]; omega
    · obtain rfl : k = 16 := by omega
      go_wp2_with fail
      go_ret
      exact ⟨rfl, HL1.out⟩
theorem bitm32_is (r : BitVec 32) (k : Nat) : (w32 r / 2 ^ k % 2 == 1) = r.getLsbD k ∧ ((w32 r / 2 ^ k).tmod 2 == 1) = r.getLsbD k := by
  have h2 : (w32 r / 2 ^ k) = ((r.toNat / 2 ^ k : Nat) : Int) := by simp [w32]
  have h3 : r.getLsbD k = decide (r.toNat / 2 ^ k % 2 = 1) := by rw [BitVec.getLsbD, Nat.testBit_eq_decide_div_mod_eq]
  rw [h2, h3, Int.tmod_eq_emod_of_nonneg (Int.natCast_nonneg _)]
  have : (((r.toNat / 2 ^ k : Nat) : Int) % 2 == 1) = decide (r.toNat / 2 ^ k % 2 = 1) := by
    by_cases h : r.toNat / 2 ^ k % 2 = 1
    · simp only [h, decide_true]; rw [beq_iff_eq]; omega
    · simp only [h, decide_false]; rw [beq_eq_false_iff_ne]; omega
  exact ⟨this, this⟩
set_option maxHeartbeats 2000000 in
theorem rtimes32 (m : List (BitVec 32)) (hm : m.length = 32) (r : BitVec 32) (w : World) :
    Calls Try.prog 41 #[.agg (m.map v32).toArray, .int .u32 (w32 r)] w fun e w' => e = .returned (.int .u32 (w32 (mulK m r 32))) ∧ Below w.heap.size w w' := by
  have HM := Lib.hid hm; clear hm
  go_enter Try.func41, Try.ntmps41
  go_wp2_with fail
  refine gen_world (fun w' => Below w.heap.size w w' ∧ Blk w' w.heap.size (m.map v32) 67) ⟨(Below.refl _ _).alloc (Nat.le_refl _) _, Blk.new w _ _⟩ ?_
  rintro w1 ⟨hL1, hB1⟩
  have HL1 := Lib.hid hL1; have HB1 := Lib.hid hB1; clear hL1 hB1
  go_loop [5, 6] (fun x i => ∃ k : Nat, k ≤ 32 ∧ i = .int .i64 k ∧ x = .int .u32 (w32 (mulK m r k))) (fun _ i => 32 - (intOf i).toNat)
  case atStart => exact ⟨0, by omega, rfl, rfl⟩
  case round =>
    obtain ⟨k, hk, rfl, rfl⟩ := hrel
    by_cases hlt : k < 32
    · have c0 : w1.cell? ⟨w.heap.size, k, none⟩ = some (.int .u32 (w32 (m.getD k 0#32))) := by
        rw [HB1.out.cell k]
        have : k < m.length := by rw [HM.out]; exact hlt
        simp [this, v32]
      obtain ⟨hb1, hb2⟩ := bitm32_is r k
      by_cases hb : r.getLsbD k = true
      · have hs : mulK m r (k + 1) = mulK m r k ^^^ m.getD k 0#32 := by rw [mulK, hb]; rfl
        rw [hb] at hb1 hb2
        have HS := Lib.hid hs; clear hs hb
        go_wp2_with fail
        go_round
        case rel => exact ⟨k + 1, by omega, by go_num, by rw [HS.out]; try simp only [List.getD_eq_getElem?_getD]⟩
        case measure => simp [intOf]; omega
      · have hb' : r.getLsbD k = false := by simpa using hb
        have hs : mulK m r (k + 1) = mulK m r k := by rw [mulK, hb']; simp
        rw [hb'] at hb1 hb2
        have HS := Lib.hid hs; clear hs hb hb'
        go_wp2_with fail
        go_round
        case rel => exact ⟨k + 1, by omega, by go_num, by rw [HS.out]⟩
        case measure => simp [intOf]; omega
    · obtain rfl : k = 32 := by omega
      go_wp2_with fail
      go_ret
      exact ⟨rfl, HL1.out⟩
theorem next16_one (x : BitVec 16) : next16 x [0] = zb16 x := by
  rw [next16_cons, next16_nil, zb16_tab]
  have h8 : (x >>> 8).toNat < 256 := by rw [BitVec.toNat_ushiftRight, Nat.shiftRight_eq_div_pow]; have := x.isLt; omega
  rw [UInt8.xor_zero, loB_toNat, Nat.mod_eq_of_lt h8]
theorem feed_false {n : Nat} (sh : BitVec n → BitVec n) (e0 r : BitVec n) : feed sh e0 r false = sh r := by
  unfold feed bitOf; simp
theorem load_cells (w : World) (g : Nat) (vs : List Value) (t : TypeId) (hB : Blk w g vs t) (n : Nat) (hn : vs.length = n) (w' : World) (hw : w'.heap = w.heap) :
    (loadCellsFrom ⟨g, 0, none⟩ 0 n #[]).run Try.prog w' = .ok vs.toArray w' := by
  subst hn
  have := run_loadCells_list (P := Try.prog) w' ⟨g, 0, none⟩ vs (fun j v hv => by
    have hadd : (⟨g, 0, none⟩ : Addr).add j = ⟨g, j, none⟩ := by unfold Addr.add; split <;> simp_all
    rw [hadd, World.cell?_of_block (w := w) (by rw [hw]), hB.cell j, hv])
  simpa [loadCells] using this
theorem still_load_whole {P : Program} {ops : Array Oper} {rest : List Oper} {o : Oper} {a : Act} {w : World} {Q : Act → Prop} (hgd : o.guard = none) (ty : TypeId) (x : Operand) (ho : o.op = .load ty x) (g : Nat) (hx : a.eval x = .pointer (some ⟨g, 0, none⟩)) (cs : List Value)
    (t : TypeId) (hb : Blk w g cs t) (n : Nat) (e : TypeId) (hu : P.underlying ty = some (.array n e)) (hi : (P.info? ty).map (·.size) = some cs.length)
    (h : wpStill P ops w Q rest (a.put o.dst (.agg cs.toArray))) : wpStill P ops w Q (o :: rest) a := by
  refine wpStill_step (fun K hK => ?_)
  simp only [Region.wanted, hgd, if_true]
  unfold Oper.still execOp
  simp only [ho, hx, Instr.loadAt, Instr.sureAddr, Sem.run_bind, Sem.run_pure, Result.andThen_ok, run_loadVar_row w g t ty cs.toArray (0, 0) _ hb hu rfl (by simpa using hi)]
  exact ⟨rfl, hK _ h⟩
theorem matOf_length {n : Nat} (f : BitVec n → BitVec n) : (matOf f).length = n := by simp [matOf]
/-- The cells of a block. -/
def cellsAt (w : World) (g : Nat) : Array Value := match w.heap[g]? with
  | some (.cells c _ _) => c
  | _ => #[]
theorem cellsAt_drew (w : World) (g : Nat) : cellsAt w.drew g = cellsAt w g := rfl
theorem cellsAt_blk {w : World} {g : Nat} {vs : List Value} {t : TypeId} (h : Blk w g vs t) : cellsAt w g = vs.toArray := by
  unfold Blk at h; unfold cellsAt; rw [h]
def blkOf : Value → Nat
  | .pointer (some a) => a.block
  | _ => 0
theorem blkOf_eq (g : Nat) : blkOf (.pointer (some ⟨g, 0, none⟩)) = g := rfl
def okAt (n : Nat) (w : World) : Value → Bool
  | .pointer (some ⟨g, 0, none⟩) => (cellsAt w g).size == n
  | _ => false
theorem okAt_eq (n : Nat) (w : World) (g : Nat) : okAt n w (.pointer (some ⟨g, 0, none⟩)) = ((cellsAt w g).size == n) := rfl
theorem okAt_ptr {n : Nat} {w : World} {v : Value} (h : okAt n w v = true) : ∃ g, v = .pointer (some ⟨g, 0, none⟩) ∧ (cellsAt w g).size = n := by
  unfold okAt at h
  split at h
  · rename_i g; exact ⟨g, rfl, by simpa using h⟩
  · cases h
def loadOk (n : Nat) (T : TypeId) (ev : Operand → Value) (w : World) (o : Oper) : Bool := match o.op with
  | .load t x => t == T && okAt n w (ev x)
  | _ => false
def loadArg (o : Oper) : Operand := match o.op with
  | .load _ x => x
  | _ => .tmp 0
theorem loadOk_eq (n : Nat) (T t : TypeId) (ev : Operand → Value) (w : World) (d : Option Tmp) (x : Operand) (ty : TypeId) (p : String) (af : Array Edge) (gd : Option (Nat × Bool)) :
    loadOk n T ev w { dst := d, op := .load t x, type := ty, pos := p, after := af, guard := gd } = (t == T && okAt n w (ev x)) := rfl
theorem loadArg_eq (t : TypeId) (d : Option Tmp) (x : Operand) (ty : TypeId) (p : String) (af : Array Edge) (gd : Option (Nat × Bool)) :
    loadArg { dst := d, op := .load t x, type := ty, pos := p, after := af, guard := gd } = x := rfl
theorem run_load_cells (ty : TypeId) (n : Nat) (hn : 0 < n) (e : TypeId) (hu : Try.prog.underlying ty = some (.array n e)) (hi : (Try.prog.info? ty).map (·.size) = some n) (w : World) (g : Nat) (hs : (cellsAt w g).size = n) :
    (Instr.loadAt ty (.pointer (some ⟨g, 0, none⟩))).run Try.prog w = .ok (.agg (cellsAt w g)) w := by
  have hb : ∃ c t fr, w.heap[g]? = some (.cells c t fr) := by
    unfold cellsAt at hs
    split at hs
    · rename_i c t fr h; exact ⟨c, t, fr, h⟩
    · simp at hs; omega
  obtain ⟨c, t, fr, hb⟩ := hb
  have hc : cellsAt w g = c := by unfold cellsAt; rw [hb]
  rw [hc] at hs ⊢
  simp only [Instr.loadAt, Instr.sureAddr, Sem.run_bind, Sem.run_pure, Result.andThen_ok]
  exact run_loadVar_row w g t ty c fr _ hb hu rfl (by rw [hi, hs])
theorem tmod2 (k : Nat) : ((k : Int) % 2 == 1) = decide (k % 2 = 1) ∧ ((k : Int).tmod 2 == 1) = decide (k % 2 = 1) := by
  rw [Int.tmod_eq_emod_of_nonneg (Int.natCast_nonneg _)]
  have : ((k : Int) % 2 == 1) = decide (k % 2 = 1) := by
    by_cases h : k % 2 = 1
    · simp only [h, decide_true]; rw [beq_iff_eq]; omega
    · simp only [h, decide_false]; rw [beq_eq_false_iff_ne]; omega
  exact ⟨this, this⟩
theorem ralloc16 (f : Nat → BitVec 16) : ∀ w : World, (Instr.alloc 63 true (.tuple #[])).run Try.prog w = .ok (.pointer (some ⟨w.heap.size, 0, none⟩)) (w.alloc (.cells ((fill16 f 0).map v16).toArray 63)) := by
  intro w
  have h : ((fill16 f 0).map v16) = ((List.range 16).map fun _ => v16 0#16) := by simp [fill16]
  have h2 : ∀ w : World, (Instr.alloc 63 true (.tuple #[])).run Try.prog w = .ok (.pointer (some ⟨w.heap.size, 0, none⟩)) (w.alloc (.cells ((List.range 16).map fun _ => v16 0#16).toArray 63)) := fun _ => by kernel_rfl
  rw [h]; exact h2 w
theorem fillA16_cell {w : World} {g : Nat} {f : Nat → BitVec 16} {k : Nat} (h : Blk w g ((fill16 f k).map v16) 63) (i : Nat) (hi : i < 16) : ∃ u, w.cell? ⟨g, i, none⟩ = some u := by
  rw [h.cell i]; exact ⟨_, List.getElem?_eq_getElem (by simp [fill16]; exact hi)⟩
theorem one16 (l : List (BitVec 16)) : ∀ u ∈ l.map v16, u.oneCell' = true := by
  intro u hu; obtain ⟨i, _, rfl⟩ := List.mem_map.1 hu; rfl
theorem rtimesA16 (m : List (BitVec 16)) (hm : m.length = 16) (A : Array Value) (hA : A = (m.map v16).toArray) (r : BitVec 16) (w : World) :
    Calls Try.prog 38 #[.agg A, .int .u16 (w16 r)] w fun e w' => e = .returned (.int .u16 (w16 (mulK m r 16))) ∧ Below w.heap.size w w' := by
  subst hA; exact rtimes16 m hm r w
theorem run_load_at16 (ev : Operand → Value) (o : Oper) (w : World) (hs : loadOk 16 63 ev w o = true) :
    (execOp ev o).run Try.prog w = .ok (.value (.agg (cellsAt w (blkOf (ev (loadArg o)))))) w := by
  obtain ⟨d, op, ty, p, af, gd⟩ := o
  unfold loadOk at hs
  split at hs
  · rename_i t x ho
    simp only at ho
    subst ho
    simp only [Bool.and_eq_true, beq_iff_eq] at hs
    obtain ⟨rfl, hs⟩ := hs
    obtain ⟨g, hg, hs⟩ := okAt_ptr hs
    unfold execOp
    simp only [hg, blkOf, loadArg, Sem.run_bind, run_load_cells 63 16 (by omega) 22 Try.underlying63 (by kernel_rfl) w g hs, Result.andThen_ok, Sem.run_pure]
  · cases hs
attribute [local go_sem ↓] run_load_at16
attribute [local go_sem] cellsAt_drew matOf_length okAt_eq blkOf_eq loadOk_eq loadArg_eq
set_option maxHeartbeats 4000000 in
theorem rzeros16 (r : BitVec 16) (n : Nat) (hn : n ≤ 1073741824) (w : World) :
    Calls Try.prog 33 #[.int .u16 (w16 r), .int .i64 n] w fun e w' => e = .returned (.int .u16 (w16 (iter zb16 n r))) ∧ Below w.heap.size w w' := by
  go_enter Try.func33, Try.ntmps33
  go_wp2_with (refine wpList_alloc_zero rfl _ rfl ((fill16 (fun i => zb16 (1#16 <<< i)) 0).map v16) (ralloc16 _) ?_)
  refine gen_world (fun w' => Below w.heap.size w w' ∧ Blk w' w.heap.size ((fill16 (fun i => zb16 (1#16 <<< i)) 0).map v16) 63) ⟨(Below.refl _ _).alloc (Nat.le_refl _) _, Blk.new w _ _⟩ ?_
  rintro w1 ⟨hL1, hB1⟩
  have HL1 := Lib.hid hL1; have HB1 := Lib.hid hB1; clear hL1 hB1
  go_loopw [6] (fun i wr => ∃ k : Nat, k ≤ 16 ∧ i = .int .i64 k ∧ Below w.heap.size w wr ∧ Blk wr w.heap.size ((fill16 (fun i => zb16 (1#16 <<< i)) k).map v16) 63) (fun i _ => 16 - (intOf i).toNat)
  case atStart => exact ⟨0, by omega, rfl, HL1.out, HB1.out⟩
  case round =>
    obtain ⟨k, hk, rfl, hL, hB⟩ := hrel
    by_cases hlt : k < 16
    · have hkb : decide ((k : Int) < 16) = true := by simp; omega
      have hp := pow16 k hlt
      have hp2 : (2 : Int) ^ k % 65536 = w16 (1#16 <<< k) := by rw [← hp, IntKind.wrap_u16]
      obtain ⟨u, c1⟩ := fillA16_cell hB k hlt
      have f1 : wr.frozen? ⟨w.heap.size, k, none⟩ = false := hB.free k
      have HL := Lib.hid hL; have HB := Lib.hid hB; clear hL hB
      go_wp2_with fail
      refine (rNext16 (1#16 <<< k) _ _ (by decide)).mono ?_
      rw [show next16 (1#16 <<< k) (ByteArray.mk #[0]).data.toList = zb16 (1#16 <<< k) from next16_one _]
      rintro e w9 ⟨rfl, rfl⟩
      go_wp2_with fail
      go_roundw
      case rel => exact ⟨k + 1, by omega, by go_num, HL.out.setCell (Nat.le_refl _) _, by rw [← fill16_set _ k hlt]; exact HB.out.set k _⟩
      case measure => simp [intOf]; omega
    · have hkn : k = 16 := by omega
      have hM : Blk wr w.heap.size ((matOf zb16).map v16) 63 := by rw [hkn, fill16_all] at hB; exact hB
      have hkb : decide ((k : Int) < 16) = false := by simp; omega
      clear hkn
      obtain ⟨g0, hg0⟩ : ∃ g0, g0 = w.heap.size := ⟨_, rfl⟩
      have hg0l : w.heap.size ≤ g0 := by omega
      rw [← hg0] at hM ⊢
      have HL := Lib.hid hL; have HM := Lib.hid hM; have HG0 := Lib.hid hg0; clear hL hM hB hg0
      go_wp2_with fail
      clear HL1 HB1
      have HLx := HL; have HMx := HM
      go_loopw [0, 1] (fun x i wr => ∃ (h : BitVec 16 → BitVec 16) (k : Nat) (y : BitVec 16), Lin h ∧ k ≤ n ∧ i = .int .i64 k ∧ x = .int .u16 (w16 y) ∧ iter h k y = iter zb16 n r ∧ Blk wr g0 ((matOf h).map v16) 63 ∧ Below w.heap.size w wr) (fun _ i _ => (intOf i).toNat)
      case atStart => exact ⟨zb16, n, r, zb16_lin, Nat.le_refl _, rfl, rfl, rfl, HMx.out, HLx.out⟩
      case round =>
        clear HLx HMx HL HM
        obtain ⟨h, k, y, hh, hk, rfl, rfl, he, hM, hL⟩ := hrel
        by_cases hpos : 0 < k
        · have hit := iter_half h k y
          have hg : decide ((0 : Int) < (k : Int)) = true := by simp; omega
          obtain ⟨ho1, ho2⟩ := tmod2 k
          have hmat := mat_twice hh
          have HH := Lib.hid hh
          by_cases ho : k % 2 = 1
          all_goals
            first | rw [if_pos ho] at hit | rw [if_neg ho] at hit
            rw [he] at hit
            first | rw [decide_eq_true ho] at ho1 ho2 | rw [decide_eq_false ho] at ho1 ho2
            have HIT := Lib.hid hit; have HM2 := Lib.hid hM; have HL := Lib.hid hL; have HMAT := Lib.hid hmat
            clear hit he hM hL hh ho hmat
          · go_wp2_with (refine wpList_load_whole rfl 63 _ rfl g0 rfl ((matOf h).map v16) 63 HM2.out 16 22 Try.underlying63 (by kernel_rfl) ?_)
            refine (rtimes16 (matOf h) (by simp [matOf]) y _).mono ?_
            rw [mulK_all HH.out]
            rintro e w2 ⟨rfl, hL2⟩
            have HL2 := Lib.hid (HL.out.trans (hL2.mono HL.out.size))
            have HM3 := Lib.hid (HM2.out.below hL2 HM2.out.lt)
            have hgl := HM3.out.lt
            clear hL2 HL HM2
            go_wp2_with (refine wpList_alloc_zero rfl _ rfl ((fill16 (fun i => mulK (matOf h) ((matOf h).getD i 0#16) 16) 0).map v16) (ralloc16 _) ?_)
            refine gen_world (fun w' => Below w.heap.size w w' ∧ Blk w' g0 ((matOf h).map v16) 63 ∧ Blk w' w2.heap.size ((fill16 (fun i => mulK (matOf h) ((matOf h).getD i 0#16) 16) 0).map v16) 63) ⟨HL2.out.alloc (Nat.le_trans hg0l (Nat.le_of_lt hgl)) _, HM3.out.alloc _, Blk.new w2 _ _⟩ ?_
            have hg2l : w.heap.size ≤ w2.heap.size := HL2.out.size
            clear HL2 HM3
            generalize w2.heap.size = g2 at *
            rintro w3 ⟨hL3, hA3, hB3⟩
            have HL3 := Lib.hid hL3; have HA3 := Lib.hid hA3; have HB3 := Lib.hid hB3; clear hL3 hA3 hB3
            go_loopw [8] (fun i wr => ∃ j : Nat, j ≤ 16 ∧ i = .int .i64 j ∧ Below w.heap.size w wr ∧ Blk wr g0 ((matOf h).map v16) 63 ∧ Blk wr g2 ((fill16 (fun i => mulK (matOf h) ((matOf h).getD i 0#16) 16) j).map v16) 63) (fun i _ => (16 - intOf i).toNat)
            case atStart => exact ⟨0, by omega, rfl, HL3.out, HA3.out, HB3.out⟩
            case round =>
              clear HL3 HA3 HB3
              obtain ⟨j, hj, rfl, hL, hA, hB⟩ := hrel
              by_cases hlt : j < 16
              · have hjb : decide ((j : Int) < 16) = true := by simp; omega
                have hj1 : (j : Int) < 16 := by omega
                have hj0 : (0 : Int) ≤ (j : Int) := by omega
                have c0 : wr.cell? ⟨g0, j, none⟩ = some (.int .u16 (w16 ((matOf h).getD j 0#16))) := by
                  rw [hA.cell j]; simp [matOf, hlt, v16]
                obtain ⟨u, c1⟩ := fillA16_cell hB j hlt
                have f1 : wr.frozen? ⟨g2, j, none⟩ = false := hB.free j
                have hne : ¬ g0 = g2 := by omega
                have hgl2 : g2 < wr.heap.size := hB.lt
                have hcs := cellsAt_blk hA
                have hsz : (cellsAt wr g0).size = 16 := by rw [hcs]; simp [matOf]
                have HCS := Lib.hid hcs; clear hcs
                have HL := Lib.hid hL; have HA := Lib.hid hA; have HB := Lib.hid hB; clear hL hA hB
                go_wp2_with fail
                go_region_with (go_at_call 38; refine (rtimesA16 (matOf h) (matOf_length _) _ HCS.out _ _).mono ?_; rintro e w4 ⟨rfl, hL4⟩; have d1 := (hL4.cell (p := ⟨g2, j, none⟩) hgl2).trans c1; have d2 := (hL4.frozen (p := ⟨g2, j, none⟩) hgl2).trans f1)
                all_goals
                  go_wp2_with fail
                  go_roundw
                  case rel =>
                    have L4 := HL.out.drew.trans (hL4.mono HL.out.size)
                    have A4 := Blk.below HA.out.drew hL4 HA.out.lt
                    have B4 := Blk.below HB.out.drew hL4 HB.out.lt
                    refine ⟨j + 1, by omega, by go_num, L4.setCell hg2l _, A4.set_far hne _, ?_⟩
                    rw [← fill16_set _ j hlt]
                    have e : (matOf h).getD j 0#16 = (matOf h)[j]'(by rw [matOf_length]; exact hlt) := by simp [matOf_length, hlt]
                    show Blk _ g2 (List.set _ j (v16 (mulK (matOf h) ((matOf h).getD j 0#16) 16))) _
                    rw [e]; exact B4.set j _
                  case measure => simp [intOf]; omega
              · obtain rfl : j = 16 := by omega
                have HL := Lib.hid hL; have HA := Lib.hid hA; have HB := Lib.hid hB; clear hL hA hB
                go_wp2_with (first | (refine wpList_load_whole rfl 63 _ rfl g2 rfl ((fill16 (fun i => mulK (matOf h) ((matOf h).getD i 0#16) 16) 16).map v16) 63 HB.out 16 22 Try.underlying63 (by kernel_rfl) ?_) | (refine wpList_store_whole rfl _ _ _ rfl g0 rfl ((fill16 (fun i => mulK (matOf h) ((matOf h).getD i 0#16) 16) 16).map v16) rfl _ ((matOf h).map v16) HA.out (by kernel_rfl) (by simp [matOf_length, fill16]) (one16 _) ?_; intro w5 hK5 hB5))
                have L5 := Lib.hid (HL.out.trans (hK5.toBelowAt HL.out.size (by simp; omega)))
                have e1 : ((fill16 (fun i => mulK (matOf h) ((matOf h).getD i 0#16) 16) 16)) = matOf (fun x => h (h x)) := by
                  rw [← HMAT.out, fill16_all]
                  apply List.ext_getElem
                  · simp [matOf_length]
                  · intro i h1 h2
                    have : i < (matOf h).length := by simpa using h2
                    simp [this]
                rw [e1] at hB5
                have HB5 := Lib.hid hB5
                clear hB5 hK5 e1
                go_wp2_with fail
                go_roundw
                case rel => exact ⟨fun x => h (h x), k / 2, h y, HH.out.comp HH.out, by omega, by first | rfl | go_num | simp, rfl, HIT.out.symm, HB5.out, L5.out⟩
                case measure => simp [intOf]; omega
          · have hgl := HM2.out.lt
            go_wp2_with (refine wpList_alloc_zero rfl _ rfl ((fill16 (fun i => mulK (matOf h) ((matOf h).getD i 0#16) 16) 0).map v16) (ralloc16 _) ?_)
            refine gen_world (fun w' => Below w.heap.size w w' ∧ Blk w' g0 ((matOf h).map v16) 63 ∧ Blk w' wr.heap.size ((fill16 (fun i => mulK (matOf h) ((matOf h).getD i 0#16) 16) 0).map v16) 63) ⟨HL.out.alloc (Nat.le_trans hg0l (Nat.le_of_lt hgl)) _, HM2.out.alloc _, Blk.new wr _ _⟩ ?_
            have hg2l : w.heap.size ≤ wr.heap.size := HL.out.size
            clear HL HM2
            generalize wr.heap.size = g2 at *
            rintro w3 ⟨hL3, hA3, hB3⟩
            have HL3 := Lib.hid hL3; have HA3 := Lib.hid hA3; have HB3 := Lib.hid hB3; clear hL3 hA3 hB3
            go_loopw [8] (fun i wr => ∃ j : Nat, j ≤ 16 ∧ i = .int .i64 j ∧ Below w.heap.size w wr ∧ Blk wr g0 ((matOf h).map v16) 63 ∧ Blk wr g2 ((fill16 (fun i => mulK (matOf h) ((matOf h).getD i 0#16) 16) j).map v16) 63) (fun i _ => (16 - intOf i).toNat)
            case atStart => exact ⟨0, by omega, rfl, HL3.out, HA3.out, HB3.out⟩
            case round =>
              clear HL3 HA3 HB3
              obtain ⟨j, hj, rfl, hL, hA, hB⟩ := hrel
              by_cases hlt : j < 16
              · have hjb : decide ((j : Int) < 16) = true := by simp; omega
                have hj1 : (j : Int) < 16 := by omega
                have hj0 : (0 : Int) ≤ (j : Int) := by omega
                have c0 : wr.cell? ⟨g0, j, none⟩ = some (.int .u16 (w16 ((matOf h).getD j 0#16))) := by
                  rw [hA.cell j]; simp [matOf, hlt, v16]
                obtain ⟨u, c1⟩ := fillA16_cell hB j hlt
                have f1 : wr.frozen? ⟨g2, j, none⟩ = false := hB.free j
                have hne : ¬ g0 = g2 := by omega
                have hgl2 : g2 < wr.heap.size := hB.lt
                have hcs := cellsAt_blk hA
                have hsz : (cellsAt wr g0).size = 16 := by rw [hcs]; simp [matOf]
                have HCS := Lib.hid hcs; clear hcs
                have HL := Lib.hid hL; have HA := Lib.hid hA; have HB := Lib.hid hB; clear hL hA hB
                go_wp2_with fail
                go_region_with (go_at_call 38; refine (rtimesA16 (matOf h) (matOf_length _) _ HCS.out _ _).mono ?_; rintro e w4 ⟨rfl, hL4⟩; have d1 := (hL4.cell (p := ⟨g2, j, none⟩) hgl2).trans c1; have d2 := (hL4.frozen (p := ⟨g2, j, none⟩) hgl2).trans f1)
                all_goals
                  go_wp2_with fail
                  go_roundw
                  case rel =>
                    have L4 := HL.out.drew.trans (hL4.mono HL.out.size)
                    have A4 := Blk.below HA.out.drew hL4 HA.out.lt
                    have B4 := Blk.below HB.out.drew hL4 HB.out.lt
                    refine ⟨j + 1, by omega, by go_num, L4.setCell hg2l _, A4.set_far hne _, ?_⟩
                    rw [← fill16_set _ j hlt]
                    have e : (matOf h).getD j 0#16 = (matOf h)[j]'(by rw [matOf_length]; exact hlt) := by simp [matOf_length, hlt]
                    show Blk _ g2 (List.set _ j (v16 (mulK (matOf h) ((matOf h).getD j 0#16) 16))) _
                    rw [e]; exact B4.set j _
                  case measure => simp [intOf]; omega
              · obtain rfl : j = 16 := by omega
                have HL := Lib.hid hL; have HA := Lib.hid hA; have HB := Lib.hid hB; clear hL hA hB
                go_wp2_with (first | (refine wpList_load_whole rfl 63 _ rfl g2 rfl ((fill16 (fun i => mulK (matOf h) ((matOf h).getD i 0#16) 16) 16).map v16) 63 HB.out 16 22 Try.underlying63 (by kernel_rfl) ?_) | (refine wpList_store_whole rfl _ _ _ rfl g0 rfl ((fill16 (fun i => mulK (matOf h) ((matOf h).getD i 0#16) 16) 16).map v16) rfl _ ((matOf h).map v16) HA.out (by kernel_rfl) (by simp [matOf_length, fill16]) (one16 _) ?_; intro w5 hK5 hB5))
                have L5 := Lib.hid (HL.out.trans (hK5.toBelowAt HL.out.size (by simp; omega)))
                have e1 : ((fill16 (fun i => mulK (matOf h) ((matOf h).getD i 0#16) 16) 16)) = matOf (fun x => h (h x)) := by
                  rw [← HMAT.out, fill16_all]
                  apply List.ext_getElem
                  · simp [matOf_length]
                  · intro i h1 h2
                    have : i < (matOf h).length := by simpa using h2
                    simp [this]
                rw [e1] at hB5
                have HB5 := Lib.hid hB5
                clear hB5 hK5 e1
                go_wp2_with fail
                go_roundw
                case rel => exact ⟨fun x => h (h x), k / 2, y, HH.out.comp HH.out, by omega, by first | rfl | go_num | simp, rfl, HIT.out.symm, HB5.out, L5.out⟩
                case measure => simp [intOf]; omega
        · obtain rfl : k = 0 := by omega
          have e1 : y = iter zb16 n r := he
          have E1 := Lib.hid e1; have HL := Lib.hid hL; clear e1 he hh hM hL
          go_wp2_with fail
          go_ret
          exact ⟨by rw [← E1.out]; rfl, HL.out⟩
theorem ralloc32 (f : Nat → BitVec 32) : ∀ w : World, (Instr.alloc 67 true (.tuple #[])).run Try.prog w = .ok (.pointer (some ⟨w.heap.size, 0, none⟩)) (w.alloc (.cells ((fill32 f 0).map v32).toArray 67)) := by
  intro w
  have h : ((fill32 f 0).map v32) = ((List.range 32).map fun _ => v32 0#32) := by simp [fill32]
  have h2 : ∀ w : World, (Instr.alloc 67 true (.tuple #[])).run Try.prog w = .ok (.pointer (some ⟨w.heap.size, 0, none⟩)) (w.alloc (.cells ((List.range 32).map fun _ => v32 0#32).toArray 67)) := fun _ => by kernel_rfl
  rw [h]; exact h2 w
theorem fillA32_cell {w : World} {g : Nat} {f : Nat → BitVec 32} {k : Nat} (h : Blk w g ((fill32 f k).map v32) 67) (i : Nat) (hi : i < 32) : ∃ u, w.cell? ⟨g, i, none⟩ = some u := by
  rw [h.cell i]; exact ⟨_, List.getElem?_eq_getElem (by simp [fill32]; exact hi)⟩
theorem one32 (l : List (BitVec 32)) : ∀ u ∈ l.map v32, u.oneCell' = true := by
  intro u hu; obtain ⟨i, _, rfl⟩ := List.mem_map.1 hu; rfl
theorem rtimesA32 (m : List (BitVec 32)) (hm : m.length = 32) (A : Array Value) (hA : A = (m.map v32).toArray) (r : BitVec 32) (w : World) :
    Calls Try.prog 41 #[.agg A, .int .u32 (w32 r)] w fun e w' => e = .returned (.int .u32 (w32 (mulK m r 32))) ∧ Below w.heap.size w w' := by
  subst hA; exact rtimes32 m hm r w
theorem run_load_at32 (ev : Operand → Value) (o : Oper) (w : World) (hs : loadOk 32 67 ev w o = true) :
    (execOp ev o).run Try.prog w = .ok (.value (.agg (cellsAt w (blkOf (ev (loadArg o)))))) w := by
  obtain ⟨d, op, ty, p, af, gd⟩ := o
  unfold loadOk at hs
  split at hs
  · rename_i t x ho
    simp only at ho
    subst ho
    simp only [Bool.and_eq_true, beq_iff_eq] at hs
    obtain ⟨rfl, hs⟩ := hs
    obtain ⟨g, hg, hs⟩ := okAt_ptr hs
    unfold execOp
    simp only [hg, blkOf, loadArg, Sem.run_bind, run_load_cells 67 32 (by omega) 23 Try.underlying67 (by kernel_rfl) w g hs, Result.andThen_ok, Sem.run_pure]
  · cases hs
attribute [local go_sem ↓] run_load_at32
attribute [local go_sem] cellsAt_drew matOf_length okAt_eq blkOf_eq loadOk_eq loadArg_eq
set_option maxHeartbeats 4000000 in
theorem rzeros32 (r : BitVec 32) (n : Nat) (hn : n ≤ 1073741824) (w : World) :
    Calls Try.prog 35 #[.int .u32 (w32 r), .int .i64 n] w fun e w' => e = .returned (.int .u32 (w32 (iter zb32 n r))) ∧ Below w.heap.size w w' := by
  go_enter Try.func35, Try.ntmps35
  go_wp2_with (refine wpList_alloc_zero rfl _ rfl ((fill32 (fun i => zb32 (1#32 <<< i)) 0).map v32) (ralloc32 _) ?_)
  refine gen_world (fun w' => Below w.heap.size w w' ∧ Blk w' w.heap.size ((fill32 (fun i => zb32 (1#32 <<< i)) 0).map v32) 67) ⟨(Below.refl _ _).alloc (Nat.le_refl _) _, Blk.new w _ _⟩ ?_
  rintro w1 ⟨hL1, hB1⟩
  have HL1 := Lib.hid hL1; have HB1 := Lib.hid hB1; clear hL1 hB1
  go_loopw [6] (fun i wr => ∃ k : Nat, k ≤ 32 ∧ i = .int .i64 k ∧ Below w.heap.size w wr ∧ Blk wr w.heap.size ((fill32 (fun i => zb32 (1#32 <<< i)) k).map v32) 67) (fun i _ => 32 - (intOf i).toNat)
  case atStart => exact ⟨0, by omega, rfl, HL1.out, HB1.out⟩
  case round =>
    obtain ⟨k, hk, rfl, hL, hB⟩ := hrel
    by_cases hlt : k < 32
    · have hkb : decide ((k : Int) < 32) = true := by simp; omega
      have hp := pow32 k hlt
      have hp2 : (2 : Int) ^ k % 4294967296 = w32 (1#32 <<< k) := by rw [← hp, IntKind.wrap_u32']
      obtain ⟨u, c1⟩ := fillA32_cell hB k hlt
      have f1 : wr.frozen? ⟨w.heap.size, k, none⟩ = false := hB.free k
      have HL := Lib.hid hL; have HB := Lib.hid hB; clear hL hB
      go_wp2_with fail
      go_loop [7, 8] (fun x j => ∃ i : Nat, i ≤ 8 ∧ j = .int .i64 i ∧ x = .int .u32 (w32 (iter sh32 i (1#32 <<< k)))) (fun _ j => (8 - intOf j).toNat)
      case atStart => exact ⟨0, by omega, rfl, rfl⟩
      case round =>
        obtain ⟨i, hi, rfl, rfl⟩ := hrel
        by_cases hi8 : i < 8
        · go_wp2_with fail
          refine (rbit32 _ _ false _ rfl).mono ?_
          rw [feed_false]
          rintro e w9 ⟨rfl, rfl⟩
          go_wp2_with fail
          go_round
          case rel => exact ⟨i + 1, by omega, by go_num, by rw [iter_succ]⟩
          case measure => simp [intOf]; omega
        obtain rfl : i = 8 := by omega
        go_wp2_with fail
        go_roundw
        case rel => exact ⟨k + 1, by omega, by go_num, HL.out.setCell (Nat.le_refl _) _, by rw [← fill32_set _ k hlt]; exact HB.out.set k _⟩
        case measure => simp [intOf]; omega
    · have hkn : k = 32 := by omega
      have hM : Blk wr w.heap.size ((matOf zb32).map v32) 67 := by rw [hkn, fill32_all] at hB; exact hB
      have hkb : decide ((k : Int) < 32) = false := by simp; omega
      clear hkn
      obtain ⟨g0, hg0⟩ : ∃ g0, g0 = w.heap.size := ⟨_, rfl⟩
      have hg0l : w.heap.size ≤ g0 := by omega
      rw [← hg0] at hM ⊢
      have HL := Lib.hid hL; have HM := Lib.hid hM; have HG0 := Lib.hid hg0; clear hL hM hB hg0
      go_wp2_with fail
      clear HL1 HB1
      have HLx := HL; have HMx := HM
      go_loopw [0, 1] (fun x i wr => ∃ (h : BitVec 32 → BitVec 32) (k : Nat) (y : BitVec 32), Lin h ∧ k ≤ n ∧ i = .int .i64 k ∧ x = .int .u32 (w32 y) ∧ iter h k y = iter zb32 n r ∧ Blk wr g0 ((matOf h).map v32) 67 ∧ Below w.heap.size w wr) (fun _ i _ => (intOf i).toNat)
      case atStart => exact ⟨zb32, n, r, zb32_lin, Nat.le_refl _, rfl, rfl, rfl, HMx.out, HLx.out⟩
      case round =>
        clear HLx HMx HL HM
        obtain ⟨h, k, y, hh, hk, rfl, rfl, he, hM, hL⟩ := hrel
        by_cases hpos : 0 < k
        · have hit := iter_half h k y
          have hg : decide ((0 : Int) < (k : Int)) = true := by simp; omega
          obtain ⟨ho1, ho2⟩ := tmod2 k
          have hmat := mat_twice hh
          have HH := Lib.hid hh
          by_cases ho : k % 2 = 1
          all_goals
            first | rw [if_pos ho] at hit | rw [if_neg ho] at hit
            rw [he] at hit
            first | rw [decide_eq_true ho] at ho1 ho2 | rw [decide_eq_false ho] at ho1 ho2
            have HIT := Lib.hid hit; have HM2 := Lib.hid hM; have HL := Lib.hid hL; have HMAT := Lib.hid hmat
            clear hit he hM hL hh ho hmat
          · go_wp2_with (refine wpList_load_whole rfl 67 _ rfl g0 rfl ((matOf h).map v32) 67 HM2.out 32 23 Try.underlying67 (by kernel_rfl) ?_)
            refine (rtimes32 (matOf h) (by simp [matOf]) y _).mono ?_
            rw [mulK_all HH.out]
            rintro e w2 ⟨rfl, hL2⟩
            have HL2 := Lib.hid (HL.out.trans (hL2.mono HL.out.size))
            have HM3 := Lib.hid (HM2.out.below hL2 HM2.out.lt)
            have hgl := HM3.out.lt
            clear hL2 HL HM2
            go_wp2_with (refine wpList_alloc_zero rfl _ rfl ((fill32 (fun i => mulK (matOf h) ((matOf h).getD i 0#32) 32) 0).map v32) (ralloc32 _) ?_)
            refine gen_world (fun w' => Below w.heap.size w w' ∧ Blk w' g0 ((matOf h).map v32) 67 ∧ Blk w' w2.heap.size ((fill32 (fun i => mulK (matOf h) ((matOf h).getD i 0#32) 32) 0).map v32) 67) ⟨HL2.out.alloc (Nat.le_trans hg0l (Nat.le_of_lt hgl)) _, HM3.out.alloc _, Blk.new w2 _ _⟩ ?_
            have hg2l : w.heap.size ≤ w2.heap.size := HL2.out.size
            clear HL2 HM3
            generalize w2.heap.size = g2 at *
            rintro w3 ⟨hL3, hA3, hB3⟩
            have HL3 := Lib.hid hL3; have HA3 := Lib.hid hA3; have HB3 := Lib.hid hB3; clear hL3 hA3 hB3
            go_loopw [10] (fun i wr => ∃ j : Nat, j ≤ 32 ∧ i = .int .i64 j ∧ Below w.heap.size w wr ∧ Blk wr g0 ((matOf h).map v32) 67 ∧ Blk wr g2 ((fill32 (fun i => mulK (matOf h) ((matOf h).getD i 0#32) 32) j).map v32) 67) (fun i _ => (32 - intOf i).toNat)
            case atStart => exact ⟨0, by omega, rfl, HL3.out, HA3.out, HB3.out⟩
            case round =>
              clear HL3 HA3 HB3
              obtain ⟨j, hj, rfl, hL, hA, hB⟩ := hrel
              by_cases hlt : j < 32
              · have hjb : decide ((j : Int) < 32) = true := by simp; omega
                have hj1 : (j : Int) < 32 := by omega
                have hj0 : (0 : Int) ≤ (j : Int) := by omega
                have c0 : wr.cell? ⟨g0, j, none⟩ = some (.int .u32 (w32 ((matOf h).getD j 0#32))) := by
                  rw [hA.cell j]; simp [matOf, hlt, v32]
                obtain ⟨u, c1⟩ := fillA32_cell hB j hlt
                have f1 : wr.frozen? ⟨g2, j, none⟩ = false := hB.free j
                have hne : ¬ g0 = g2 := by omega
                have hgl2 : g2 < wr.heap.size := hB.lt
                have hcs := cellsAt_blk hA
                have hsz : (cellsAt wr g0).size = 32 := by rw [hcs]; simp [matOf]
                have HCS := Lib.hid hcs; clear hcs
                have HL := Lib.hid hL; have HA := Lib.hid hA; have HB := Lib.hid hB; clear hL hA hB
                go_wp2_with fail
                go_region_with (go_at_call 41; refine (rtimesA32 (matOf h) (matOf_length _) _ HCS.out _ _).mono ?_; rintro e w4 ⟨rfl, hL4⟩; have d1 := (hL4.cell (p := ⟨g2, j, none⟩) hgl2).trans c1; have d2 := (hL4.frozen (p := ⟨g2, j, none⟩) hgl2).trans f1)
                all_goals
                  go_wp2_with fail
                  go_roundw
                  case rel =>
                    have L4 := HL.out.drew.trans (hL4.mono HL.out.size)
                    have A4 := Blk.below HA.out.drew hL4 HA.out.lt
                    have B4 := Blk.below HB.out.drew hL4 HB.out.lt
                    refine ⟨j + 1, by omega, by go_num, L4.setCell hg2l _, A4.set_far hne _, ?_⟩
                    rw [← fill32_set _ j hlt]
                    have e : (matOf h).getD j 0#32 = (matOf h)[j]'(by rw [matOf_length]; exact hlt) := by simp [matOf_length, hlt]
                    show Blk _ g2 (List.set _ j (v32 (mulK (matOf h) ((matOf h).getD j 0#32) 32))) _
                    rw [e]; exact B4.set j _
                  case measure => simp [intOf]; omega
              · obtain rfl : j = 32 := by omega
                have HL := Lib.hid hL; have HA := Lib.hid hA; have HB := Lib.hid hB; clear hL hA hB
                go_wp2_with (first | (refine wpList_load_whole rfl 67 _ rfl g2 rfl ((fill32 (fun i => mulK (matOf h) ((matOf h).getD i 0#32) 32) 32).map v32) 67 HB.out 32 23 Try.underlying67 (by kernel_rfl) ?_) | (refine wpList_store_whole rfl _ _ _ rfl g0 rfl ((fill32 (fun i => mulK (matOf h) ((matOf h).getD i 0#32) 32) 32).map v32) rfl _ ((matOf h).map v32) HA.out (by kernel_rfl) (by simp [matOf_length, fill32]) (one32 _) ?_; intro w5 hK5 hB5))
                have L5 := Lib.hid (HL.out.trans (hK5.toBelowAt HL.out.size (by simp; omega)))
                have e1 : ((fill32 (fun i => mulK (matOf h) ((matOf h).getD i 0#32) 32) 32)) = matOf (fun x => h (h x)) := by
                  rw [← HMAT.out, fill32_all]
                  apply List.ext_getElem
                  · simp [matOf_length]
                  · intro i h1 h2
                    have : i < (matOf h).length := by simpa using h2
                    simp [this]
                rw [e1] at hB5
                have HB5 := Lib.hid hB5
                clear hB5 hK5 e1
                go_wp2_with fail
                go_roundw
                case rel => exact ⟨fun x => h (h x), k / 2, h y, HH.out.comp HH.out, by omega, by first | rfl | go_num | simp, rfl, HIT.out.symm, HB5.out, L5.out⟩
                case measure => simp [intOf]; omega
          · have hgl := HM2.out.lt
            go_wp2_with (refine wpList_alloc_zero rfl _ rfl ((fill32 (fun i => mulK (matOf h) ((matOf h).getD i 0#32) 32) 0).map v32) (ralloc32 _) ?_)
            refine gen_world (fun w' => Below w.heap.size w w' ∧ Blk w' g0 ((matOf h).map v32) 67 ∧ Blk w' wr.heap.size ((fill32 (fun i => mulK (matOf h) ((matOf h).getD i 0#32) 32) 0).map v32) 67) ⟨HL.out.alloc (Nat.le_trans hg0l (Nat.le_of_lt hgl)) _, HM2.out.alloc _, Blk.new wr _ _⟩ ?_
            have hg2l : w.heap.size ≤ wr.heap.size := HL.out.size
            clear HL HM2
            generalize wr.heap.size = g2 at *
            rintro w3 ⟨hL3, hA3, hB3⟩
            have HL3 := Lib.hid hL3; have HA3 := Lib.hid hA3; have HB3 := Lib.hid hB3; clear hL3 hA3 hB3
            go_loopw [10] (fun i wr => ∃ j : Nat, j ≤ 32 ∧ i = .int .i64 j ∧ Below w.heap.size w wr ∧ Blk wr g0 ((matOf h).map v32) 67 ∧ Blk wr g2 ((fill32 (fun i => mulK (matOf h) ((matOf h).getD i 0#32) 32) j).map v32) 67) (fun i _ => (32 - intOf i).toNat)
            case atStart => exact ⟨0, by omega, rfl, HL3.out, HA3.out, HB3.out⟩
            case round =>
              clear HL3 HA3 HB3
              obtain ⟨j, hj, rfl, hL, hA, hB⟩ := hrel
              by_cases hlt : j < 32
              · have hjb : decide ((j : Int) < 32) = true := by simp; omega
                have hj1 : (j : Int) < 32 := by omega
                have hj0 : (0 : Int) ≤ (j : Int) := by omega
                have c0 : wr.cell? ⟨g0, j, none⟩ = some (.int .u32 (w32 ((matOf h).getD j 0#32))) := by
                  rw [hA.cell j]; simp [matOf, hlt, v32]
                obtain ⟨u, c1⟩ := fillA32_cell hB j hlt
                have f1 : wr.frozen? ⟨g2, j, none⟩ = false := hB.free j
                have hne : ¬ g0 = g2 := by omega
                have hgl2 : g2 < wr.heap.size := hB.lt
                have hcs := cellsAt_blk hA
                have hsz : (cellsAt wr g0).size = 32 := by rw [hcs]; simp [matOf]
                have HCS := Lib.hid hcs; clear hcs
                have HL := Lib.hid hL; have HA := Lib.hid hA; have HB := Lib.hid hB; clear hL hA hB
                go_wp2_with fail
                go_region_with (go_at_call 41; refine (rtimesA32 (matOf h) (matOf_length _) _ HCS.out _ _).mono ?_; rintro e w4 ⟨rfl, hL4⟩; have d1 := (hL4.cell (p := ⟨g2, j, none⟩) hgl2).trans c1; have d2 := (hL4.frozen (p := ⟨g2, j, none⟩) hgl2).trans f1)
                all_goals
                  go_wp2_with fail
                  go_roundw
                  case rel =>
                    have L4 := HL.out.drew.trans (hL4.mono HL.out.size)
                    have A4 := Blk.below HA.out.drew hL4 HA.out.lt
                    have B4 := Blk.below HB.out.drew hL4 HB.out.lt
                    refine ⟨j + 1, by omega, by go_num, L4.setCell hg2l _, A4.set_far hne _, ?_⟩
                    rw [← fill32_set _ j hlt]
                    have e : (matOf h).getD j 0#32 = (matOf h)[j]'(by rw [matOf_length]; exact hlt) := by simp [matOf_length, hlt]
                    show Blk _ g2 (List.set _ j (v32 (mulK (matOf h) ((matOf h).getD j 0#32) 32))) _
                    rw [e]; exact B4.set j _
                  case measure => simp [intOf]; omega
              · obtain rfl : j = 32 := by omega
                have HL := Lib.hid hL; have HA := Lib.hid hA; have HB := Lib.hid hB; clear hL hA hB
                go_wp2_with (first | (refine wpList_load_whole rfl 67 _ rfl g2 rfl ((fill32 (fun i => mulK (matOf h) ((matOf h).getD i 0#32) 32) 32).map v32) 67 HB.out 32 23 Try.underlying67 (by kernel_rfl) ?_) | (refine wpList_store_whole rfl _ _ _ rfl g0 rfl ((fill32 (fun i => mulK (matOf h) ((matOf h).getD i 0#32) 32) 32).map v32) rfl _ ((matOf h).map v32) HA.out (by kernel_rfl) (by simp [matOf_length, fill32]) (one32 _) ?_; intro w5 hK5 hB5))
                have L5 := Lib.hid (HL.out.trans (hK5.toBelowAt HL.out.size (by simp; omega)))
                have e1 : ((fill32 (fun i => mulK (matOf h) ((matOf h).getD i 0#32) 32) 32)) = matOf (fun x => h (h x)) := by
                  rw [← HMAT.out, fill32_all]
                  apply List.ext_getElem
                  · simp [matOf_length]
                  · intro i h1 h2
                    have : i < (matOf h).length := by simpa using h2
                    simp [this]
                rw [e1] at hB5
                have HB5 := Lib.hid hB5
                clear hB5 hK5 e1
                go_wp2_with fail
                go_roundw
                case rel => exact ⟨fun x => h (h x), k / 2, y, HH.out.comp HH.out, by omega, by first | rfl | go_num | simp, rfl, HIT.out.symm, HB5.out, L5.out⟩
                case measure => simp [intOf]; omega
        · obtain rfl : k = 0 := by omega
          have e1 : y = iter zb32 n r := he
          have E1 := Lib.hid e1; have HL := Lib.hid hL; clear e1 he hh hM hL
          go_wp2_with fail
          go_ret
          exact ⟨by rw [← E1.out]; rfl, HL.out⟩
end Go.Proofs.Ytdahabokhmgplaa
