/- What is proved here: the frame that the automaton on the ground makes of a unit. -/
import Derived.Test.YtbncejmohhejlaaFo8
import Derived.Test.YtbncejmohhejlaaT5
import Derived.Test.YtbncejmohhejlaaStep
set_option linter.unusedVariables false
set_option linter.unusedSimpArgs false
namespace Go.Proofs.Ytbncejmohhejlaa
open Go.RowKit
theorem and255n : ∀ n : Nat, n < 512 → bits .and .i64 (n : Int) 255 = (n : Int) % 256 := by decide +kernel
theorem and255w (d : Int) (h0 : 0 ≤ d) (h1 : d < 512) : bits .and .i64 d 255 = d % 256 := by
  have := and255n d.toNat (by omega)
  rw [show ((d.toNat : Nat) : Int) = d by omega] at this
  exact this
def frameF (s : Fs) (n : Int) (d : ByteArray) : Tc := ⟨s.craft, s.chan, false, false, n % 256, d⟩
set_option maxHeartbeats 2000000 in
set_option maxRecDepth 100000 in
theorem frame_in (n : Int) (d : ByteArray) (s : Fs) (g : Nat) (S : List Nat) (w : World) (h0 : 0 ≤ n) (h1 : n < 512) (h : FopIn w g S s) :
    Calls Try.prog 39 #[.pointer (some ⟨g, 0, none⟩), .int .i64 n, .string d] w fun e w' => e = .returned (.agg #[.int .i64 s.craft, .int .i64 s.chan, .bool false, .bool false, .int .i64 (n % 256), .string d]) ∧ Below w.heap.size w w' := by
  have hb := and255w n h0 h1
  obtain ⟨ve, vw, vs, vb, hF, hS⟩ := h
  have HB := Lib.hid (hF.blk.alloc (Obj.cells #[.int .i64 0, .int .i64 0, .bool false, .bool false, .int .i64 0, .string ⟨#[]⟩] 31))
  have HR := Lib.hid (Blk.new w [.int .i64 0, .int .i64 0, .bool false, .bool false, .int .i64 0, .string ⟨#[]⟩] 31)
  have HL := Lib.hid ((Below.refl w.heap.size w).alloc (Nat.le_refl _) (Obj.cells #[.int .i64 0, .int .i64 0, .bool false, .bool false, .int .i64 0, .string ⟨#[]⟩] 31))
  clear hF hS
  have c1 := HB.out.cell 1; have c2 := HB.out.cell 2
  simp only [Fs.cells, List.getElem?_cons_zero, List.getElem?_cons_succ] at c1 c2
  have r0 := HR.out.cell 0
  have r1 := HR.out.cell 1
  have r2 := HR.out.cell 2
  have r3 := HR.out.cell 3
  have r4 := HR.out.cell 4
  have r5 := HR.out.cell 5
  simp only [List.getElem?_cons_zero, List.getElem?_cons_succ] at r0 r1 r2 r3 r4 r5
  have f0 := HR.out.free 0
  have f1 := HR.out.free 1
  have f2 := HR.out.free 2
  have f3 := HR.out.free 3
  have f4 := HR.out.free 4
  have f5 := HR.out.free 5
  go_enter Try.func39, Try.ntmps39
  go_wp2_with fail
  refine still_tail 12 (by kernel_rfl) (by kernel_rfl) ?_
  simp only [List.take_succ_cons, List.take_zero, List.drop_succ_cons, List.drop_zero]
  repeat still_step
  refine wpStill_nil ?_
  go_wp2_with fail
  refine ret_cell rfl w.heap.size 31 [.int .i64 s.craft, .int .i64 s.chan, .bool false, .bool false, .int .i64 (n % 256), .string d] rfl (Blk.new w [.int .i64 s.craft, .int .i64 s.chan, .bool false, .bool false, .int .i64 (n % 256), .string d] 31).drew Try.underlying31 rfl (by kernel_rfl) rfl ?_
  exact ⟨rfl, ((Below.refl w.heap.size w).alloc (Nat.le_refl _) _).drew⟩
end Go.Proofs.Ytbncejmohhejlaa
