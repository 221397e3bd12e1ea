/- What is proved here: walks of the two tables of the checksums. -/
import Derived.Test.YtbncejmohhejlaaStr
import Derived.Test.YtbncejmohhejlaaStill
import Derived.Test.YtbncejmohhejlaaCrc2
import Derived.Laws.Tables
import Derived.Laws.Rows
import Derived.Deep.WholeRow
set_option linter.unusedVariables false
set_option linter.unusedSimpArgs false
namespace Go.Proofs.Ytbncejmohhejlaa
open Go.RowKit
def v16 (x : BitVec 16) : Value := .int .u16 (w16 x)
def v32 (x : BitVec 32) : Value := .int .u32 (w32 x)
section
variable {P : Program} {ops : Array Oper} {rest : List Oper} {o : Oper} {a : Act} {w : World} {Q : Exit → Act → World → Prop}
/-- A variable of an array type is made: a block of zeros. -/
theorem wpList_alloc_zero (hgd : o.guard = none) (ty : TypeId) (ho : o.op = .alloc ty) (z : List Value) (hz : ∀ w : World, (Instr.alloc ty true (.tuple #[])).run P w = .ok (.pointer (some ⟨w.heap.size, 0, none⟩)) (w.alloc (.cells z.toArray ty)))
    (h : wpList P ops Q rest (a.put o.dst (.pointer (some ⟨w.heap.size, 0, none⟩))) (w.alloc (.cells z.toArray ty))) : wpList P ops Q (o :: rest) a w := by
  refine wpList_plain hgd fun K hK => ?_
  unfold Oper.wp execOp
  simp only [ho, Sem.run_bind, Sem.run_pure, Result.andThen_ok, hz]
  exact hK _ _ h
/-- A whole array is stored into a block of its size. -/
theorem wpList_store_whole (hgd : o.guard = none) (ty : TypeId) (x y : Operand) (ho : o.op = .store ty x y) (g : Nat) (hx : a.eval x = .pointer (some ⟨g, 0, none⟩)) (cs : List Value) (hy : a.eval y = .agg cs.toArray)
    (t : TypeId) (old : List Value) (hb : Blk w g old t) (hi : (P.info? ty).map (·.size) = some cs.length) (hol : old.length = cs.length) (h1 : ∀ u ∈ cs, u.oneCell' = true)
    (h : ∀ w', Keep [g] w w' → Blk w' g cs t → wpList P ops Q rest (a.put o.dst undef) w') : wpList P ops Q (o :: rest) a w := by
  refine wpList_plain hgd fun K hK => ?_
  have hr := run_storeVar_row (P := P) w g t ty old.toArray cs.toArray hb (by simpa using hi) (by simpa using hol) (by simpa [Array.all_eq_true_iff_forall_mem] using h1)
  unfold Oper.wp execOp
  simp only [ho, Sem.run_bind, Sem.run_pure, Result.andThen_ok, hx, hy, Instr.storeAt, Instr.sureAddr, hr]
  exact hK _ _ (h _ ⟨rfl, rfl, rfl, by simp, fun k _ hk => setRow_other w g k _ (by simpa using hk)⟩ (setRow_heap w g _ _ _ _ hb))
theorem wpList_load_whole (hgd : o.guard = none) (ty : TypeId) (x : Operand) (ho : o.op = .load ty x) (g : Nat) (hx : a.eval x = .pointer (some ⟨g, 0, none⟩)) (cs : List Value)
    (t : TypeId) (hb : Blk w g cs t) (n : Nat) (e : TypeId) (hu : P.underlying ty = some (.array n e)) (hi : (P.info? ty).map (·.size) = some cs.length)
    (h : wpList P ops Q rest (a.put o.dst (.agg cs.toArray)) w) : wpList P ops Q (o :: rest) a w :=
  wpList_load_row hgd ty x ho g hx t cs.toArray (0, 0) _ hb hu rfl (by simpa using hi) h
end
def row16 (k : Nat) : List Value := (List.range 256).map fun i => v16 (if i < k then tab16 i else 0#16)
def row32 (k : Nat) : List Value := (List.range 256).map fun i => v32 (if i < k then tab32 i else 0#32)
theorem row16_set (k : Nat) (h : k < 256) : (row16 k).set k (v16 (tab16 k)) = row16 (k + 1) := by
  apply List.ext_getElem
  · simp [row16]
  · intro i h1 h2
    simp only [row16, List.getElem_set, List.getElem_map, List.getElem_range]
    by_cases e : k = i
    · subst e; simp
    · rw [if_neg e]; congr 1; by_cases h3 : i < k
      · rw [if_pos h3, if_pos (by omega)]
      · rw [if_neg h3, if_neg (by omega)]
theorem row32_set (k : Nat) (h : k < 256) : (row32 k).set k (v32 (tab32 k)) = row32 (k + 1) := by
  apply List.ext_getElem
  · simp [row32]
  · intro i h1 h2
    simp only [row32, List.getElem_set, List.getElem_map, List.getElem_range]
    by_cases e : k = i
    · subst e; simp
    · rw [if_neg e]; congr 1; by_cases h3 : i < k
      · rw [if_pos h3, if_pos (by omega)]
      · rw [if_neg h3, if_neg (by omega)]
theorem row16_length (k : Nat) : (row16 k).length = 256 := by simp [row16]
theorem row32_length (k : Nat) : (row32 k).length = 256 := by simp [row32]
theorem row16_one (k : Nat) : ∀ u ∈ row16 k, u.oneCell' = true := by
  intro u hu; obtain ⟨i, _, rfl⟩ := List.mem_map.1 hu; rfl
theorem row32_one (k : Nat) : ∀ u ∈ row32 k, u.oneCell' = true := by
  intro u hu; obtain ⟨i, _, rfl⟩ := List.mem_map.1 hu; rfl
theorem alloc16 : ∀ w : World, (Instr.alloc 141 true (.tuple #[])).run Try.prog w = .ok (.pointer (some ⟨w.heap.size, 0, none⟩)) (w.alloc (.cells (row16 0).toArray 141)) := fun _ => by kernel_rfl
theorem mul4129 (x : BitVec 16) : IntKind.u16.wrap (w16 x * 4129) = w16 (x * 4129#16) := w16_mul_lit x 4129
theorem mulEdb (x : BitVec 32) : IntKind.u32.wrap (w32 x * 3988292384) = w32 (x * 3988292384#32) := w32_mul_lit x 3988292384
theorem wrap16_nat (k : Nat) (h : k < 65536) : IntKind.u16.wrap (k : Int) = w16 (BitVec.ofNat 16 k) := by
  rw [w16_ofNat, IntKind.wrap_u16]; omega
theorem and1_32 (x : BitVec 32) : bits .and .u32 (w32 x) 1 = w32 (x &&& 1#32) := w32_and_lit x 1
theorem and1_16 (x : BitVec 16) : bits .and .u16 (w16 x) 1 = w16 (x &&& 1#16) := w16_and_lit x 1
attribute [local go_sem] mul4129 mulEdb and1_32
theorem wrap32_nat (k : Nat) (h : k < 4294967296) : IntKind.u32.wrap (k : Int) = w32 (BitVec.ofNat 32 k) := by
  rw [w32_ofNat, IntKind.wrap_u32']; omega
set_option maxHeartbeats 2000000 in
set_option maxRecDepth 100000 in
theorem bytes16_any (w : World) : Calls Try.prog 79 #[] w fun e w' => e = .returned (.agg (row16 256).toArray) ∧ Below w.heap.size w w' := by
  go_enter Try.func79, Try.ntmps79
  go_wp2_with (refine wpList_alloc_zero rfl _ rfl (row16 0) alloc16 ?_)
  refine gen_world (fun w' => Below w.heap.size w w' ∧ Blk w' w.heap.size (row16 0) 141 ∧ Blk w' (w.heap.size + 1) (row16 0) 141)
    ⟨((Below.refl _ _).alloc (Nat.le_refl _) _).alloc (by simp) _, (Blk.new w (row16 0) _).alloc _, Blk.new_at _ (row16 0) _ _ (by simp)⟩ ?_
  rintro w1 ⟨hL1, hA1, hB1⟩
  have HL1 := Lib.hid hL1; clear hL1
  have HA1 := Lib.hid hA1; clear hA1
  have HB1 := Lib.hid hB1; clear hB1
  go_loopw [5] (fun i wr => ∃ k : Nat, k ≤ 256 ∧ i = .int .i64 k ∧ Below w.heap.size w wr ∧ Blk wr w.heap.size (row16 0) 141 ∧ Blk wr (w.heap.size + 1) (row16 k) 141) (fun i _ => (256 - intOf i).toNat)
  case atStart => exact ⟨0, Nat.zero_le _, rfl, HL1.out, HA1.out, HB1.out⟩
  case round =>
    obtain ⟨k, hk, rfl, hL, hA, hB⟩ := hrel
    have HL := Lib.hid hL; clear hL
    have HA := Lib.hid hA; clear hA
    by_cases hlt : k < 256
    · have hw := wrap16_nat k (by omega)
      have c0 : wr.cell? ⟨w.heap.size + 1, k, none⟩ = some (v16 0#16) := by rw [hB.cell k]; simp [row16, hlt]
      have f0 : wr.frozen? ⟨w.heap.size + 1, k, none⟩ = false := hB.free k
      have HB := Lib.hid hB; clear hB
      go_wp2_with fail
      go_loop [3, 11] (fun r j => ∃ m : Nat, m ≤ 8 ∧ j = .int .i64 m ∧ r = .int .u16 (w16 (iter sh16 m (BitVec.ofNat 16 k <<< 8)))) (fun _ j => (8 - intOf j).toNat)
      case atStart => exact ⟨0, by omega, rfl, rfl⟩
      case round =>
        obtain ⟨m, hm, rfl, rfl⟩ := hrel
        by_cases hm8 : m < 8
        · go_wp2_with fail
          go_round
          case rel => exact ⟨m + 1, by omega, by go_num, by rw [iter_succ]; rfl⟩
          case measure => simp [intOf]; omega
        · obtain rfl : m = 8 := by omega
          go_wp2_with fail
          go_roundw
          case rel => exact ⟨k + 1, by omega, by go_num, HL.out.setCell (Nat.le_succ _) _, HA.out.set_far (by simp) _, by rw [← row16_set k hlt]; exact HB.out.set k _⟩
          case measure => simp [intOf]; omega
    · obtain rfl : k = 256 := by omega
      have HB := Lib.hid hB; clear hB
      go_wp2_with (first | (refine wpList_load_whole rfl _ _ rfl (w.heap.size + 1) rfl (row16 256) _ HB.out 256 134 Try.underlying141 (by kernel_rfl) ?_) | (refine wpList_store_whole rfl _ _ _ rfl w.heap.size rfl (row16 256) rfl _ (row16 0) HA.out (by kernel_rfl) (by simp [row16_length]) (row16_one 256) ?_; intro w2 hK2 hB2))
      go_wp2_with fail
      refine bodyPost_ret (results_cell_row (P := Try.prog) rfl _ _ w.heap.size _ (row16 256).toArray (0, 0) _ rfl hB2 Try.underlying141 rfl (by kernel_rfl)) rfl ⟨rfl, ?_⟩
      exact HL.out.trans (hK2.toBelowAt HL.out.size (by simp))
end Go.Proofs.Ytbncejmohhejlaa
