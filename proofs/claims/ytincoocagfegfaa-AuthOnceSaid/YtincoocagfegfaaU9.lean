/- What is proved here: the walk of Open of guards, where it opens nothing. -/
import Derived.Test.YtincoocagfegfaaU8
set_option linter.unusedVariables false
set_option linter.unusedSimpArgs false
namespace Go.Proofs.Ytincoocagfegfaa
open Go.RowKit
def Cm.zero : Cm := ⟨0, 0#64, 0, ⟨#[]⟩⟩
def Gs.take (s : Gs) (ch : Nat) (n : BitVec 64) : Gs := ⟨s.ser + 1#64, fun i => if i = ch then n else s.l i⟩
theorem last_cell {W : World} {g : Nat} {key : ByteArray} {s : Gs} (h : Gd W g key s) (c : Nat) (hc : c < 8) : W.cell? ⟨g, 2 + c, none⟩ = some (vu (s.l c)) := by
  rw [Blk.cell h (2 + c)]
  match c, hc with
  | 0, _ => rfl
  | 1, _ => rfl
  | 2, _ => rfl
  | 3, _ => rfl
  | 4, _ => rfl
  | 5, _ => rfl
  | 6, _ => rfl
  | 7, _ => rfl
set_option maxHeartbeats 4000000 in
set_option maxRecDepth 100000 in
theorem aOpen_idle (v : Value) (ch : Int) (d : ByteArray) (w : World) (hN : ∀ W, Below w.heap.size w W → Calls Try.prog 26 #[v] W fun e w' => e = .returned (.bool true) ∧ W = w') : Calls Try.prog 16 #[v, .int .i64 ch, .string d] w fun e w' => e = .returned (.tuple #[Cm.zero.val, .string ⟨#[]⟩, .int .i64 1]) ∧ Below w.heap.size w w' := by
  have HL := Lib.hid ((Below.refl w.heap.size w).alloc (Nat.le_refl _) (Obj.cells #[.int .i64 0, .int .u64 0, .int .i64 0, .string ⟨#[]⟩] 24))
  have HX := Lib.hid (Blk.new w [.int .i64 0, .int .u64 0, .int .i64 0, .string ⟨#[]⟩] 24)
  have HN := Lib.hid hN; clear hN
  go_enter Try.func16, Try.ntmps16
  go_wp2_with fail
  refine (HN.out _ HL.out).mono ?_
  rintro e _ ⟨rfl, rfl⟩
  go_wp2_with fail
  refine ret_cell_tmp2 rfl w.heap.size 24 Cm.zero.cells rfl HX.out Try.underlying24 rfl (by kernel_rfl) rfl ?_
  exact ⟨rfl, HL.out⟩
set_option maxHeartbeats 4000000 in
set_option maxRecDepth 100000 in
theorem aOpen_arg (g : Nat) (key : ByteArray) (s : Gs) (ch : Int) (d : ByteArray) (w : World) (hk : key.size = 16) (hB : Gd w g key s) (hc : ¬ (0 ≤ ch ∧ ch ≤ 7)) : Calls Try.prog 16 #[.pointer (some ⟨g, 0, none⟩), .int .i64 ch, .string d] w fun e w' => e = .returned (.tuple #[Cm.zero.val, .string ⟨#[]⟩, .int .i64 2]) ∧ Below w.heap.size w w' := by
  have HL := Lib.hid ((Below.refl w.heap.size w).alloc (Nat.le_refl _) (Obj.cells #[.int .i64 0, .int .u64 0, .int .i64 0, .string ⟨#[]⟩] 24))
  have HX := Lib.hid (Blk.new w [.int .i64 0, .int .u64 0, .int .i64 0, .string ⟨#[]⟩] 24)
  have hn := anone_any g key s (w.alloc (Obj.cells #[.int .i64 0, .int .u64 0, .int .i64 0, .string ⟨#[]⟩] 24)) (Blk.alloc hB _)
  rw [not_empty key hk] at hn
  have HN := Lib.hid hn; clear hn hB hk
  by_cases h0 : ch < 0
  · have d0 : decide (ch < 0) = true := decide_eq_true h0
    clear h0 hc
    go_enter Try.func16, Try.ntmps16
    go_wp2_with fail
    refine HN.out.mono ?_
    rintro e _ ⟨rfl, rfl⟩
    go_wp2_with fail
    refine ret_cell_tmp2 rfl w.heap.size 24 Cm.zero.cells rfl HX.out Try.underlying24 rfl (by kernel_rfl) rfl ?_
    exact ⟨rfl, HL.out⟩
  · have d0 : decide (ch < 0) = false := decide_eq_false h0
    have d1 : decide (8 ≤ ch) = true := decide_eq_true (by omega)
    clear h0 hc
    go_enter Try.func16, Try.ntmps16
    go_wp2_with fail
    refine HN.out.mono ?_
    rintro e _ ⟨rfl, rfl⟩
    go_wp2_with fail
    refine ret_cell_tmp2 rfl w.heap.size 24 Cm.zero.cells rfl HX.out Try.underlying24 rfl (by kernel_rfl) rfl ?_
    exact ⟨rfl, HL.out⟩
set_option maxHeartbeats 4000000 in
set_option maxRecDepth 100000 in
theorem aOpen_form (g : Nat) (key : ByteArray) (s : Gs) (ch : Int) (d : ByteArray) (w : World) (hk : key.size = 16) (hB : Gd w g key s) (h0 : 0 ≤ ch) (h7 : ch ≤ 7) (hd : ¬ (17 ≤ d.size ∧ d.size ≤ 197)) : Calls Try.prog 16 #[.pointer (some ⟨g, 0, none⟩), .int .i64 ch, .string d] w fun e w' => e = .returned (.tuple #[Cm.zero.val, .string ⟨#[]⟩, .int .i64 6]) ∧ Below w.heap.size w w' := by
  have HL := Lib.hid ((Below.refl w.heap.size w).alloc (Nat.le_refl _) (Obj.cells #[.int .i64 0, .int .u64 0, .int .i64 0, .string ⟨#[]⟩] 24))
  have HX := Lib.hid (Blk.new w [.int .i64 0, .int .u64 0, .int .i64 0, .string ⟨#[]⟩] 24)
  have hn := anone_any g key s (w.alloc (Obj.cells #[.int .i64 0, .int .u64 0, .int .i64 0, .string ⟨#[]⟩] 24)) (Blk.alloc hB _)
  rw [not_empty key hk] at hn
  have HN := Lib.hid hn; clear hn hB hk
  by_cases h17 : d.size < 17
  · have d0 : decide ((d.size : Int) < 17) = true := decide_eq_true (by omega)
    clear h17 hd
    go_enter Try.func16, Try.ntmps16
    go_wp2_with fail
    refine HN.out.mono ?_
    rintro e _ ⟨rfl, rfl⟩
    go_wp2_with fail
    refine ret_cell_tmp2 rfl w.heap.size 24 Cm.zero.cells rfl HX.out Try.underlying24 rfl (by kernel_rfl) rfl ?_
    exact ⟨rfl, HL.out⟩
  · have d0 : decide ((d.size : Int) < 17) = false := decide_eq_false (by omega)
    have d1 : decide ((197 : Int) < d.size) = true := decide_eq_true (by omega)
    clear h17 hd
    go_enter Try.func16, Try.ntmps16
    go_wp2_with fail
    refine HN.out.mono ?_
    rintro e _ ⟨rfl, rfl⟩
    go_wp2_with fail
    refine ret_cell_tmp2 rfl w.heap.size 24 Cm.zero.cells rfl HX.out Try.underlying24 rfl (by kernel_rfl) rfl ?_
    exact ⟨rfl, HL.out⟩
end Go.Proofs.Ytincoocagfegfaa
