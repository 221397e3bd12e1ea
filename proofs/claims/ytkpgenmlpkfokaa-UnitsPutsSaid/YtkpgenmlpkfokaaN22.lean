/- What is proved here: the walk of the deferred closure of Get of units. -/
import Derived.Test.YtkpgenmlpkfokaaN21
import Derived.Defers
import Derived.Recover
set_option linter.unusedVariables false
set_option linter.unusedSimpArgs false
namespace Go.Proofs.Ytkpgenmlpkfokaa
open Go.RowKit
def shortE (r : Bool) : PanicEntry := { v := .iface 62 (.agg #[]), recovered := r }
theorem assert_short (S : TypeId) (W : World) : (Instr.typeAssert (.iface 62 (.agg #[])) S 62 true).run Try.prog W = .ok (.tuple #[.agg #[], .bool true]) W := by kernel_rfl
theorem eleven : ∀ cs : List Value, cs.length = 11 → ∃ v0 v1 v2 v3 v4 v5 v6 v7 v8 v9 v10, cs = [v0, v1, v2, v3, v4, v5, v6, v7, v8, v9, v10]
  | [a, b, c, d, e, f, g, h, i, j, k], _ => ⟨a, b, c, d, e, f, g, h, i, j, k, rfl⟩
set_option maxHeartbeats 2000000 in
set_option maxRecDepth 100000 in
theorem catch_idle (p q : Addr) (w : World) :
    CallsD Try.prog 33 #[.pointer (some p), .pointer (some q)] .returning w fun e u' w' => e = .returned (.tuple #[]) ∧ u' = .returning ∧ w' = w := by
  refine callsD_of_wpS Try.func33 rfl fun c₀ cs hu => ?_
  apply wpS_seq
  apply wpS_region
  simp [wpOpsS, go_sem, recoverD, hu, Try.ntmps33, Exit.thenS]
  refine wpS_of_wp ?_
  change Code.wp _ _ _ { tmps := #[.pointer (some p), .pointer (some q), .nilIface, undef, undef, .nilIface, undef, undef, undef, undef, undef, undef, undef, undef, undef, undef, undef], defers := [] } _
  go_wp2_with fail
  cases c₀
  simp_all [bodyPostS, results, Try.results33]
set_option maxHeartbeats 2000000 in
set_option maxRecDepth 100000 in
theorem catch_panicking (hU hE : Nat) (cs0 : List Value) (x : Int) (w : World) (hc : cs0.length = 11) (hB : Blk w hU cs0 25) (hB2 : Blk w hE [.int .i64 x] 29) (hne : hU ≠ hE) :
    CallsD Try.prog 33 #[.pointer (some ⟨hU, 0, none⟩), .pointer (some ⟨hE, 0, none⟩)] (.panicking [shortE false]) w fun e u' w' =>
      e = .returned (.tuple #[]) ∧ u' = .panicking [shortE true] ∧ Keep [hU, hE] w w' ∧ Blk w' hU (Un.zero.cells (.slice none 0 0)) 25 ∧ Blk w' hE [.int .i64 6] 29 := by
  refine callsD_of_wpS Try.func33 rfl fun c₀ cs hu => ?_
  apply wpS_seq
  apply wpS_region
  simp [wpOpsS, go_sem, recoverD, hu, Try.ntmps33, Exit.thenS, shortE]
  refine wpS_of_wp ?_
  change Code.wp _ _ _ { tmps := #[.pointer (some ⟨hU, 0, none⟩), .pointer (some ⟨hE, 0, none⟩), .iface 62 (.agg #[]), undef, undef, .iface 62 (.agg #[]), undef, undef, undef, undef, undef, undef, undef, undef, undef, undef, undef], defers := [] } _
  obtain ⟨v0, v1, v2, v3, v4, v5, v6, v7, v8, v9, v10, rfl⟩ := eleven cs0 hc
  have HB := Lib.hid hB
  have HE := Lib.hid hB2
  have HC := Lib.hid hu
  clear hB hB2 hc hu
  have y0 := HE.out.cell 0
  simp only [List.getElem?_cons_zero, List.getElem?_cons_succ] at y0
  have z0 := HE.out.free 0
  have hta := assert_short
  have hlu := HB.out.lt
  have hle := HE.out.lt
  have n1 : ¬ hE = hU := fun e => hne e.symm
  go_wp2_with (refine store_blk rfl _ _ _ rfl hU 25 _ [.int .i64 0, .int .i64 0, .string ⟨#[]⟩, .int .i64 0, .int .u32 0, .int .i64 0, .string ⟨#[]⟩, .int .i64 0, .int .i64 0, .bool false, .slice none 0 0] rfl rfl (HB.out.alloc _) rfl (by kernel_rfl) (by kernel_rfl) ?_)
  intro w2 hB2 hK2
  have HB2 := Lib.hid hB2
  have HE2 := Lib.hid ((HE.out.alloc (Obj.cells #[] 62)).keep hK2 (by simpa using hne.symm))
  have HK2 := Lib.hid ((((Keep.refl [hU, hE] w).alloc (Obj.cells #[] 62))).trans (hK2.mono (by simp)))
  clear hB2 hK2 y0 z0
  have y0 := HE2.out.cell 0
  simp only [List.getElem?_cons_zero, List.getElem?_cons_succ] at y0
  have z0 := HE2.out.free 0
  go_wp2_with fail
  cases c₀
  refine ⟨rfl, _, rfl, .tuple #[], ?_, rfl, rfl, ?_, ?_, ?_⟩
  · simp [results, Try.results33]
  · exact HK2.out.setCell (.inl (by simp)) _
  · exact HB2.out.set_far (by simpa using hne) _
  · exact HE2.out.set 0 _
end Go.Proofs.Ytkpgenmlpkfokaa
