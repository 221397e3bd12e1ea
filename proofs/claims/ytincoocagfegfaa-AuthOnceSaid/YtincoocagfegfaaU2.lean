/- What is proved here: walks of sum and Seal of sealed commands. -/
import Derived.Test.YtincoocagfegfaaU1
import Derived.Test.YtincoocagfegfaaCalm
import Derived.Deep.DeepCutAuto
import Derived.Deep.RegionWith
set_option linter.unusedVariables false
set_option linter.unusedSimpArgs false
namespace Go.Proofs.Ytincoocagfegfaa
open Go.RowKit
/-- The byte that a channel is. -/
def chB (ch : Int) : UInt8 := UInt8.ofNat ch.toNat
def sumL (key : List UInt8) (ch : Int) (b : List UInt8) : List UInt8 := be8 (keyedSum key (chB ch :: b))
/-- A command. -/
structure Cm where
  chan : Int
  cnt : BitVec 64
  op : Int
  args : ByteArray
def Cm.cells (c : Cm) : List Value := [.int .i64 c.chan, .int .u64 (w64 c.cnt), .int .i64 c.op, .string c.args]
def Cm.val (c : Cm) : Value := .agg #[.int .i64 c.chan, .int .u64 (w64 c.cnt), .int .i64 c.op, .string c.args]
def Cm.ok (c : Cm) : Prop := 0 ≤ c.chan ∧ c.chan ≤ 7 ∧ c.cnt ≠ 0#64 ∧ 0 ≤ c.op ∧ c.op ≤ 255 ∧ c.args.size ≤ 180
def bodyL (c : Cm) : List UInt8 := be8 c.cnt ++ [chB c.op] ++ c.args.data.toList
def sealL (key : List UInt8) (c : Cm) : List UInt8 := bodyL c ++ sumL key c.chan (bodyL c)
theorem chB_int (a : Int) (h0 : 0 ≤ a) (h1 : a ≤ 255) : a = ((chB a).toNat : Int) := by unfold chB; rw [UInt8.toNat_ofNat']; omega
theorem be8_length' (n : BitVec 64) : (be8 n).length = 8 := by simp [be8]
theorem bytes1_string (W : World) (a : Int) (h0 : 0 ≤ a) (h1 : a ≤ 255) :
    (convert 54 9 (.slice (some ⟨W.heap.size, 0, none⟩) 1 1)).run Try.prog (W.alloc (.cells #[.int .u8 a] 5)) = .ok (.string ⟨#[chB a]⟩) (W.alloc (.cells #[.int .u8 a] 5)) := by
  refine run_string (base := W.heap.size) (xs := [chB a]) (.inr ⟨W.heap.size, 1, _, _, rfl, Nat.le_refl _, heap_alloc_new W _, .inl rfl, Nat.le_refl _, by decide, rfl, ?_⟩)
  have := chB_int a h0 h1
  simp [vb]; exact this
set_option maxHeartbeats 4000000 in
set_option maxRecDepth 100000 in
theorem asum_any (key : ByteArray) (ch : Int) (b : ByteArray) (w : World) (hk : key.size = 16) (h0 : 0 ≤ ch) (h1 : ch ≤ 7) (hb : b.size ≤ 1000000) :
    Calls Try.prog 20 #[.string key, .int .i64 ch, .string b] w fun e w' => ∃ v', e = .returned v' ∧ Row w' w.heap.size v' (sumL key.data.toList ch b.data.toList) ∧ Below w.heap.size w w' := by
  have hcv := bytes1_string w ch h0 (by omega)
  obtain ⟨m, hm⟩ : ∃ m : ByteArray, m = ⟨#[chB ch]⟩ ++ b := ⟨_, rfl⟩
  have hml : m.data.toList = chB ch :: b.data.toList := by rw [hm]; simp
  have hms : m.size ≤ 1000001 := by have := congrArg List.length hml; simp at this; omega
  have HS := Lib.hid (fun w => Sum_ok key m w hk (by omega))
  rw [hml] at HS
  have HM := Lib.hid hm
  obtain ⟨n, hn⟩ : ∃ n, n = keyedSum key.data.toList (chB ch :: b.data.toList) := ⟨_, rfl⟩
  rw [← hn] at HS
  have HN := Lib.hid hn
  have HL := Lib.hid ((Below.refl w.heap.size w).alloc (Nat.le_refl _) (Obj.cells #[.int .u8 ch] 5))
  clear hm hml hn hk
  go_enter Try.func20, Try.ntmps20
  go_wp2_with fail
  rw [← HM.out]
  refine (HS.out _).mono ?_
  rintro e w1 ⟨rfl, hL⟩
  replace HL := Lib.hid (HL.out.trans (hL.mono HL.out.size))
  clear hL hcv
  go_wp2_with fail
  refine (aapp_any w.heap.size (.slice none 0 0) [] n 0 8 _ (by simp) (by simp) HL.out.size (by simp) (row_nil _ _)).mono ?_
  rintro e w2 ⟨v2, rfl, hR, hL⟩
  replace HL := Lib.hid (HL.out.trans hL)
  have HR := Lib.hid hR
  clear hL hR
  go_wp2_with fail
  go_ret
  exact ⟨_, rfl, by have := HR.out; rw [HN.out] at this; simpa [sumL] using this, HL.out⟩
end Go.Proofs.Ytincoocagfegfaa
