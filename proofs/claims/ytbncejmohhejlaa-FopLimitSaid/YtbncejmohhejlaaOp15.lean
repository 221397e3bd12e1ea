/- What is proved here: a call of the laws about the automaton on the ground, as an argument, is opened. No condition. -/
import Derived.Test.YtbncejmohhejlaaO14
set_option linter.unusedVariables false
set_option linter.unusedSimpArgs false
namespace Go.Proofs.Ytbncejmohhejlaa
open Go.RowKit
open Go.ChangeShapes Go.WideShapes Go.ChangeAt Go.RowKit Go.Deep
section
variable {H : Type} {enc : TypeId × Value → H} {w : World} {base : Nat} {spare : Nat → Bool} {held : Bool}
theorem op15_open {fuel : Nat} {cs : List Value} {x : DataW H × List MemPlace} (h : DataW.trod enc Try.prog w base spare held fuel 56 cs = some x) : ∃ (a b c : Int) (d : ByteArray) (u : Int), cs = [.int .i64 a, .int .i64 b, .int .i64 c, .string d, .int .u32 u] := by
  obtain ⟨hl, hf⟩ := trod_cells Try.underlying56 (by kernel_rfl) (by kernel_rfl) h
  obtain ⟨v0, y0, n0, e0, t0⟩ := hf 0 _ rfl
  obtain ⟨v1, y1, n1, e1, t1⟩ := hf 1 _ rfl
  obtain ⟨v2, y2, n2, e2, t2⟩ := hf 2 _ rfl
  obtain ⟨v3, y3, n3, e3, t3⟩ := hf 3 _ rfl
  obtain ⟨v4, y4, n4, e4, t4⟩ := hf 4 _ rfl
  obtain ⟨a0, c0, _, w0⟩ := DataW.trod_int Try.underlying3 t0
  obtain ⟨a1, c1, _, w1⟩ := DataW.trod_int Try.underlying3 t1
  obtain ⟨a2, c2, _, w2⟩ := DataW.trod_int Try.underlying3 t2
  obtain ⟨a3, c3, _, w3⟩ := DataW.trod_string Try.underlying9 t3
  obtain ⟨a4, c4, _, w4⟩ := DataW.trod_int Try.underlying38 t4
  injection c0 with c0; injection c1 with c1; injection c2 with c2; injection c3 with c3; injection c4 with c4
  subst c0 c1 c2 c3 c4
  refine ⟨a0, a1, a2, a3, a4, ?_⟩
  match cs, hl with
  | [d0, d1, d2, d3, d4], _ =>
    simp only [List.getElem?_cons_zero, List.getElem?_cons_succ, Option.some.injEq] at e0 e1 e2 e3 e4
    rw [e0, e1, e2, e3, e4]
set_option maxRecDepth 100000 in
theorem open_op15 {r : Reach} {b0 : Nat} {v : Value} {d : DataW H} {p : List MemPlace} (hv : Value.okWide Try.prog w r b0 56 v) (h : DataW.Trod enc Try.prog w base spare held 56 v d p) : ∃ (a b c : Int) (d : ByteArray) (u : Int), v = .agg #[.int .i64 a, .int .i64 b, .int .i64 c, .string d, .int .u32 u] := by
  obtain ⟨cs, rfl, hsz⟩ := okWide_struct Try.underlying56 hv
  obtain ⟨fuel, hf⟩ := h
  obtain ⟨a, b, c, d, u, hc⟩ := op15_open hf
  refine ⟨a, b, c, d, u, ?_⟩
  obtain ⟨l⟩ := cs
  have : l = [.int .i64 a, .int .i64 b, .int .i64 c, .string d, .int .u32 u] := hc
  rw [this]
theorem course_open {fuel : Nat} {cs : List Value} {x : DataW H × List MemPlace} (h : DataW.trod enc Try.prog w base spare held fuel 50 cs = some x) : ∃ (a b c t : Int) (sv : Value), cs = [.int .i64 a, .int .i64 b, .int .i64 c, .int .i64 t, sv] ∧ I64 a ∧ I64 b ∧ I64 c := by
  obtain ⟨hl, hf⟩ := trod_cells Try.underlying50 (by kernel_rfl) (by kernel_rfl) h
  obtain ⟨v0, y0, n0, e0, t0⟩ := hf 0 _ rfl
  obtain ⟨v1, y1, n1, e1, t1⟩ := hf 1 _ rfl
  obtain ⟨v2, y2, n2, e2, t2⟩ := hf 2 _ rfl
  obtain ⟨v3, y3, n3, e3, t3⟩ := hf 3 _ rfl
  obtain ⟨v4, y4, n4, e4, t4⟩ := hf 4 _ rfl
  obtain ⟨a0, c0, _, w0⟩ := DataW.trod_int Try.underlying3 t0
  obtain ⟨a1, c1, _, w1⟩ := DataW.trod_int Try.underlying3 t1
  obtain ⟨a2, c2, _, w2⟩ := DataW.trod_int Try.underlying3 t2
  obtain ⟨a3, c3, _, w3⟩ := DataW.trod_int Try.underlying2 t3
  injection c0 with c0; injection c1 with c1; injection c2 with c2; injection c3 with c3
  subst c0 c1 c2 c3
  refine ⟨a0, a1, a2, a3, v4, ?_, bounds_i64 w0, bounds_i64 w1, bounds_i64 w2⟩
  match cs, hl with
  | [d0, d1, d2, d3, d4], _ =>
    simp only [List.getElem?_cons_zero, List.getElem?_cons_succ, Option.some.injEq] at e0 e1 e2 e3 e4
    rw [e0, e1, e2, e3, e4]
set_option maxRecDepth 100000 in
theorem open_course {r : Reach} {b0 : Nat} {v : Value} {d : DataW H} {p : List MemPlace} (hv : Value.okWide Try.prog w r b0 50 v) (h : DataW.Trod enc Try.prog w base spare held 50 v d p) : ∃ (a b c t : Int) (sv : Value), v = .agg #[.int .i64 a, .int .i64 b, .int .i64 c, .int .i64 t, sv] ∧ I64 a ∧ I64 b ∧ I64 c := by
  obtain ⟨cs, rfl, hsz⟩ := okWide_struct Try.underlying50 hv
  obtain ⟨fuel, hf⟩ := h
  obtain ⟨a, b, c, t, sv, hc, hw⟩ := course_open hf
  refine ⟨a, b, c, t, sv, ?_, hw⟩
  obtain ⟨l⟩ := cs
  have : l = [.int .i64 a, .int .i64 b, .int .i64 c, .int .i64 t, sv] := hc
  rw [this]
end
end Go.Proofs.Ytbncejmohhejlaa
