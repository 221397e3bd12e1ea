/- What is proved here: the methods of an automaton that is nil or empty. -/
import Derived.Test.YtebgehmgjafblaaF7
set_option linter.unusedVariables false
set_option linter.unusedSimpArgs false
namespace Go.Proofs.Ytebgehmgjafblaa
open Go.RowKit
def Fm.zero : Fm := ⟨0, 0, Wd.zero⟩
/-- An automaton that does nothing: nil, or of the zero value. -/
def Idle (w : World) (v : Value) : Prop := v = .pointer none ∨ ∃ g, v = .pointer (some ⟨g, 0, none⟩) ∧ Blk w g Fm.zero.cells 82
theorem Idle.below {w w' : World} {v : Value} (h : Idle w v) (hb : Below w.heap.size w w') : Idle w' v := by
  rcases h with rfl | ⟨g, rfl, hB⟩
  · exact .inl rfl
  · exact .inr ⟨g, rfl, hB.below hb hB.lt⟩
theorem none_idle (v : Value) (w : World) (h : Idle w v) : Calls Try.prog 51 #[v] w fun e w' => e = .returned (.bool true) ∧ w = w' := by
  rcases h with rfl | ⟨g, rfl, hB⟩
  · exact none_nil w
  · exact none_any Fm.zero g w true rfl hB
set_option maxHeartbeats 1000000 in
set_option maxRecDepth 100000 in
theorem Take_idle (v : Value) (x : Tc) (room : Bool) (w : World) (h : Idle w v) : Calls Try.prog 19 #[v, x.val, .bool room] w fun e w' => e = .returned (.tuple #[.bool false, .int .i64 1]) ∧ Below w.heap.size w w' := by
  obtain ⟨c, ch, b, k, s, d⟩ := x
  simp only [Tc.val]
  have hn := none_idle v _ (h.below ((Below.refl w.heap.size w).alloc (Nat.le_refl _) (Obj.cells #[.int .i64 c, .int .i64 ch, .bool b, .bool k, .int .i64 s, .string d] 30)))
  have HN := Lib.hid hn; clear hn h
  go_enter Try.func19, Try.ntmps19
  go_wp2_with fail
  refine HN.out.mono ?_
  rintro e w1 ⟨rfl, rfl⟩
  go_wp2_with fail
  go_ret2
  exact ⟨rfl, (Below.refl _ _).alloc (Nat.le_refl _) _⟩
set_option maxHeartbeats 1000000 in
set_option maxRecDepth 100000 in
theorem Free_idle (v : Value) (w : World) (h : Idle w v) : Calls Try.prog 38 #[v] w fun e w' => e = .returned (.tuple #[]) ∧ w = w' := by
  have HN := Lib.hid (none_idle v w h)
  clear h
  go_enter Try.func38, Try.ntmps38
  go_wp2_with fail
  refine HN.out.mono ?_
  rintro e w1 ⟨rfl, rfl⟩
  go_wp2_with fail
  go_end0
  exact ⟨rfl, rfl⟩
set_option maxHeartbeats 1000000 in
set_option maxRecDepth 100000 in
theorem Word_idle (v : Value) (w : World) (h : Idle w v) : Calls Try.prog 42 #[v] w fun e w' => e = .returned (.int .u32 0) ∧ w = w' := by
  have HN := Lib.hid (none_idle v w h)
  clear h
  go_enter Try.func42, Try.ntmps42
  go_wp2_with fail
  refine HN.out.mono ?_
  rintro e w1 ⟨rfl, rfl⟩
  go_wp2_with fail
  go_ret
  exact ⟨rfl, rfl⟩
set_option maxHeartbeats 1000000 in
set_option maxRecDepth 100000 in
theorem State_idle (v : Value) (w : World) (h : Idle w v) : Calls Try.prog 18 #[v] w fun e w' => e = .returned Wd.zero.val ∧ Below w.heap.size w w' := by
  have HL0 := Lib.hid ((Below.refl w.heap.size w).alloc (Nat.le_refl _) (Obj.cells #[.int .i64 0, .bool false, .bool false, .bool false, .int .i64 0, .int .i64 0] 34))
  have HN := Lib.hid (none_idle v _ (h.below ((Below.refl w.heap.size w).alloc (Nat.le_refl _) (Obj.cells #[.int .i64 0, .bool false, .bool false, .bool false, .int .i64 0, .int .i64 0] 34))))
  clear h
  go_enter Try.func18, Try.ntmps18
  go_wp2_with fail
  refine HN.out.mono ?_
  rintro e w1 ⟨rfl, rfl⟩
  go_wp2_with fail
  refine ret_cell rfl w.heap.size 34 Wd.zero.cells rfl (Blk.new w _ _) Try.underlying34 rfl (by kernel_rfl) rfl ?_
  exact ⟨rfl, HL0.out⟩
end Go.Proofs.Ytebgehmgjafblaa
