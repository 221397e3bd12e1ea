/- What is proved here: walks of the functions that keep the fields of a kind of unit. -/
import Derived.Test.YtkpgenmlpkfokaaN6
set_option linter.unusedVariables false
set_option linter.unusedSimpArgs false
namespace Go.Proofs.Ytkpgenmlpkfokaa
open Go.RowKit
def onlyU (k : Nat) (u : Un) : Un :=
  match k with
  | 1 => { Un.zero with name := u.name, size := u.size }
  | 2 => { Un.zero with off := u.off, data := u.data }
  | 3 => { Un.zero with why := u.why, size := u.size, sum := u.sum }
  | 4 => { Un.zero with why := u.why }
  | 5 => { Un.zero with meta_ := u.meta_, gaps := u.gaps }
  | _ => { Un.zero with ans := u.ans }
def onlyG (k : Nat) (gv : Value) : Value := match k with | 5 => gv | _ => .slice none 0 0
set_option maxHeartbeats 2000000 in
set_option maxRecDepth 100000 in
theorem only1_any (u : Un) (ga : Option Addr) (gn gc : Nat) (w : World) : Calls Try.prog 39 #[u.val (.slice ga gn gc)] w fun e w' => e = .returned ((onlyU 1 u).val (onlyG 1 (.slice ga gn gc))) ∧ Below w.heap.size w w' := by
  have HA := Lib.hid ((Blk.new w (u.cells (.slice ga gn gc)) 25).alloc (Obj.cells (Un.zero.cells (.slice none 0 0)).toArray 25))
  obtain ⟨ki, nu, nm, sz, su, of, da, wy, an, me, gs⟩ := u
  simp only [Un.cells, Un.val, Un.zero, onlyU, onlyG] at HA ⊢
  have x0 := HA.out.cell 0
  have x1 := HA.out.cell 1
  have x2 := HA.out.cell 2
  have x3 := HA.out.cell 3
  have x4 := HA.out.cell 4
  have x5 := HA.out.cell 5
  have x6 := HA.out.cell 6
  have x7 := HA.out.cell 7
  have x8 := HA.out.cell 8
  have x9 := HA.out.cell 9
  have x10 := HA.out.cell 10
  simp only [List.getElem?_cons_zero, List.getElem?_cons_succ] at x0 x1 x2 x3 x4 x5 x6 x7 x8 x9 x10
  go_enter Try.func39, Try.ntmps39
  go_wp2_with fail
  refine ret_cell rfl (w.heap.size + 1) 25 [.int .i64 0, .int .i64 0, .string nm, .int .i64 sz, .int .u32 0, .int .i64 0, .string ⟨#[]⟩, .int .i64 0, .int .i64 0, .bool false, .slice none 0 0] rfl (Blk.new_at _ _ 25 (w.heap.size + 1) (by simp)) Try.underlying25 rfl (by kernel_rfl) rfl ?_
  exact ⟨rfl, ((Below.refl w.heap.size w).alloc (Nat.le_refl _) _).alloc (by simp) _⟩
set_option maxHeartbeats 2000000 in
set_option maxRecDepth 100000 in
theorem only2_any (u : Un) (ga : Option Addr) (gn gc : Nat) (w : World) : Calls Try.prog 44 #[u.val (.slice ga gn gc)] w fun e w' => e = .returned ((onlyU 2 u).val (onlyG 2 (.slice ga gn gc))) ∧ Below w.heap.size w w' := by
  have HA := Lib.hid ((Blk.new w (u.cells (.slice ga gn gc)) 25).alloc (Obj.cells (Un.zero.cells (.slice none 0 0)).toArray 25))
  obtain ⟨ki, nu, nm, sz, su, of, da, wy, an, me, gs⟩ := u
  simp only [Un.cells, Un.val, Un.zero, onlyU, onlyG] at HA ⊢
  have x0 := HA.out.cell 0
  have x1 := HA.out.cell 1
  have x2 := HA.out.cell 2
  have x3 := HA.out.cell 3
  have x4 := HA.out.cell 4
  have x5 := HA.out.cell 5
  have x6 := HA.out.cell 6
  have x7 := HA.out.cell 7
  have x8 := HA.out.cell 8
  have x9 := HA.out.cell 9
  have x10 := HA.out.cell 10
  simp only [List.getElem?_cons_zero, List.getElem?_cons_succ] at x0 x1 x2 x3 x4 x5 x6 x7 x8 x9 x10
  go_enter Try.func44, Try.ntmps44
  go_wp2_with fail
  refine ret_cell rfl (w.heap.size + 1) 25 [.int .i64 0, .int .i64 0, .string ⟨#[]⟩, .int .i64 0, .int .u32 0, .int .i64 of, .string da, .int .i64 0, .int .i64 0, .bool false, .slice none 0 0] rfl (Blk.new_at _ _ 25 (w.heap.size + 1) (by simp)) Try.underlying25 rfl (by kernel_rfl) rfl ?_
  exact ⟨rfl, ((Below.refl w.heap.size w).alloc (Nat.le_refl _) _).alloc (by simp) _⟩
set_option maxHeartbeats 2000000 in
set_option maxRecDepth 100000 in
theorem only3_any (u : Un) (ga : Option Addr) (gn gc : Nat) (w : World) : Calls Try.prog 48 #[u.val (.slice ga gn gc)] w fun e w' => e = .returned ((onlyU 3 u).val (onlyG 3 (.slice ga gn gc))) ∧ Below w.heap.size w w' := by
  have HA := Lib.hid ((Blk.new w (u.cells (.slice ga gn gc)) 25).alloc (Obj.cells (Un.zero.cells (.slice none 0 0)).toArray 25))
  obtain ⟨ki, nu, nm, sz, su, of, da, wy, an, me, gs⟩ := u
  simp only [Un.cells, Un.val, Un.zero, onlyU, onlyG] at HA ⊢
  have x0 := HA.out.cell 0
  have x1 := HA.out.cell 1
  have x2 := HA.out.cell 2
  have x3 := HA.out.cell 3
  have x4 := HA.out.cell 4
  have x5 := HA.out.cell 5
  have x6 := HA.out.cell 6
  have x7 := HA.out.cell 7
  have x8 := HA.out.cell 8
  have x9 := HA.out.cell 9
  have x10 := HA.out.cell 10
  simp only [List.getElem?_cons_zero, List.getElem?_cons_succ] at x0 x1 x2 x3 x4 x5 x6 x7 x8 x9 x10
  go_enter Try.func48, Try.ntmps48
  go_wp2_with fail
  refine ret_cell rfl (w.heap.size + 1) 25 [.int .i64 0, .int .i64 0, .string ⟨#[]⟩, .int .i64 sz, .int .u32 su, .int .i64 0, .string ⟨#[]⟩, .int .i64 wy, .int .i64 0, .bool false, .slice none 0 0] rfl (Blk.new_at _ _ 25 (w.heap.size + 1) (by simp)) Try.underlying25 rfl (by kernel_rfl) rfl ?_
  exact ⟨rfl, ((Below.refl w.heap.size w).alloc (Nat.le_refl _) _).alloc (by simp) _⟩
set_option maxHeartbeats 2000000 in
set_option maxRecDepth 100000 in
theorem only4_any (u : Un) (ga : Option Addr) (gn gc : Nat) (w : World) : Calls Try.prog 53 #[u.val (.slice ga gn gc)] w fun e w' => e = .returned ((onlyU 4 u).val (onlyG 4 (.slice ga gn gc))) ∧ Below w.heap.size w w' := by
  have HA := Lib.hid ((Blk.new w (u.cells (.slice ga gn gc)) 25).alloc (Obj.cells (Un.zero.cells (.slice none 0 0)).toArray 25))
  obtain ⟨ki, nu, nm, sz, su, of, da, wy, an, me, gs⟩ := u
  simp only [Un.cells, Un.val, Un.zero, onlyU, onlyG] at HA ⊢
  have x0 := HA.out.cell 0
  have x1 := HA.out.cell 1
  have x2 := HA.out.cell 2
  have x3 := HA.out.cell 3
  have x4 := HA.out.cell 4
  have x5 := HA.out.cell 5
  have x6 := HA.out.cell 6
  have x7 := HA.out.cell 7
  have x8 := HA.out.cell 8
  have x9 := HA.out.cell 9
  have x10 := HA.out.cell 10
  simp only [List.getElem?_cons_zero, List.getElem?_cons_succ] at x0 x1 x2 x3 x4 x5 x6 x7 x8 x9 x10
  go_enter Try.func53, Try.ntmps53
  go_wp2_with fail
  refine ret_cell rfl (w.heap.size + 1) 25 [.int .i64 0, .int .i64 0, .string ⟨#[]⟩, .int .i64 0, .int .u32 0, .int .i64 0, .string ⟨#[]⟩, .int .i64 wy, .int .i64 0, .bool false, .slice none 0 0] rfl (Blk.new_at _ _ 25 (w.heap.size + 1) (by simp)) Try.underlying25 rfl (by kernel_rfl) rfl ?_
  exact ⟨rfl, ((Below.refl w.heap.size w).alloc (Nat.le_refl _) _).alloc (by simp) _⟩
set_option maxHeartbeats 2000000 in
set_option maxRecDepth 100000 in
theorem only5_any (u : Un) (ga : Option Addr) (gn gc : Nat) (w : World) : Calls Try.prog 57 #[u.val (.slice ga gn gc)] w fun e w' => e = .returned ((onlyU 5 u).val (onlyG 5 (.slice ga gn gc))) ∧ Below w.heap.size w w' := by
  have HA := Lib.hid ((Blk.new w (u.cells (.slice ga gn gc)) 25).alloc (Obj.cells (Un.zero.cells (.slice none 0 0)).toArray 25))
  obtain ⟨ki, nu, nm, sz, su, of, da, wy, an, me, gs⟩ := u
  simp only [Un.cells, Un.val, Un.zero, onlyU, onlyG] at HA ⊢
  have x0 := HA.out.cell 0
  have x1 := HA.out.cell 1
  have x2 := HA.out.cell 2
  have x3 := HA.out.cell 3
  have x4 := HA.out.cell 4
  have x5 := HA.out.cell 5
  have x6 := HA.out.cell 6
  have x7 := HA.out.cell 7
  have x8 := HA.out.cell 8
  have x9 := HA.out.cell 9
  have x10 := HA.out.cell 10
  simp only [List.getElem?_cons_zero, List.getElem?_cons_succ] at x0 x1 x2 x3 x4 x5 x6 x7 x8 x9 x10
  go_enter Try.func57, Try.ntmps57
  go_wp2_with fail
  refine ret_cell rfl (w.heap.size + 1) 25 [.int .i64 0, .int .i64 0, .string ⟨#[]⟩, .int .i64 0, .int .u32 0, .int .i64 0, .string ⟨#[]⟩, .int .i64 0, .int .i64 0, .bool me, .slice ga gn gc] rfl (Blk.new_at _ _ 25 (w.heap.size + 1) (by simp)) Try.underlying25 rfl (by kernel_rfl) rfl ?_
  exact ⟨rfl, ((Below.refl w.heap.size w).alloc (Nat.le_refl _) _).alloc (by simp) _⟩
set_option maxHeartbeats 2000000 in
set_option maxRecDepth 100000 in
theorem only6_any (u : Un) (ga : Option Addr) (gn gc : Nat) (w : World) : Calls Try.prog 62 #[u.val (.slice ga gn gc)] w fun e w' => e = .returned ((onlyU 6 u).val (onlyG 6 (.slice ga gn gc))) ∧ Below w.heap.size w w' := by
  have HA := Lib.hid ((Blk.new w (u.cells (.slice ga gn gc)) 25).alloc (Obj.cells (Un.zero.cells (.slice none 0 0)).toArray 25))
  obtain ⟨ki, nu, nm, sz, su, of, da, wy, an, me, gs⟩ := u
  simp only [Un.cells, Un.val, Un.zero, onlyU, onlyG] at HA ⊢
  have x0 := HA.out.cell 0
  have x1 := HA.out.cell 1
  have x2 := HA.out.cell 2
  have x3 := HA.out.cell 3
  have x4 := HA.out.cell 4
  have x5 := HA.out.cell 5
  have x6 := HA.out.cell 6
  have x7 := HA.out.cell 7
  have x8 := HA.out.cell 8
  have x9 := HA.out.cell 9
  have x10 := HA.out.cell 10
  simp only [List.getElem?_cons_zero, List.getElem?_cons_succ] at x0 x1 x2 x3 x4 x5 x6 x7 x8 x9 x10
  go_enter Try.func62, Try.ntmps62
  go_wp2_with fail
  refine ret_cell rfl (w.heap.size + 1) 25 [.int .i64 0, .int .i64 0, .string ⟨#[]⟩, .int .i64 0, .int .u32 0, .int .i64 0, .string ⟨#[]⟩, .int .i64 0, .int .i64 an, .bool false, .slice none 0 0] rfl (Blk.new_at _ _ 25 (w.heap.size + 1) (by simp)) Try.underlying25 rfl (by kernel_rfl) rfl ?_
  exact ⟨rfl, ((Below.refl w.heap.size w).alloc (Nat.le_refl _) _).alloc (by simp) _⟩
theorem only_any (k : Nat) (h1 : 1 ≤ k) (h6 : k ≤ 6) (u : Un) (ga : Option Addr) (gn gc : Nat) (w : World) : Calls Try.prog (fOnly k) #[u.val (.slice ga gn gc)] w fun e w' => e = .returned ((onlyU k u).val (onlyG k (.slice ga gn gc))) ∧ Below w.heap.size w w' := by
  match k, h1, h6 with
  | 1, _, _ => exact only1_any u ga gn gc w
  | 2, _, _ => exact only2_any u ga gn gc w
  | 3, _, _ => exact only3_any u ga gn gc w
  | 4, _, _ => exact only4_any u ga gn gc w
  | 5, _, _ => exact only5_any u ga gn gc w
  | 6, _, _ => exact only6_any u ga gn gc w
end Go.Proofs.Ytkpgenmlpkfokaa
