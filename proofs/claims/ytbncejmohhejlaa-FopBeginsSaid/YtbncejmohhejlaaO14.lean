/- What is proved here: frames, words and pieces as values; frames among the arguments, opened. No condition. -/
import Derived.Test.YtbncejmohhejlaaOpen
import Derived.Test.YtbncejmohhejlaaKit
set_option linter.unusedVariables false
set_option linter.unusedSimpArgs false
namespace Go.Proofs.Ytbncejmohhejlaa
open Go.ChangeShapes Go.WideShapes Go.ChangeAt Go.RowKit Go.Deep
/-- A frame. -/
structure Tc where
  craft : Int
  chan : Int
  byp : Bool
  ctl : Bool
  seq : Int
  data : ByteArray
def Tc.cells (x : Tc) : List Value := [.int .i64 x.craft, .int .i64 x.chan, .bool x.byp, .bool x.ctl, .int .i64 x.seq, .string x.data]
def Tc.val (x : Tc) : Value := .agg #[.int .i64 x.craft, .int .i64 x.chan, .bool x.byp, .bool x.ctl, .int .i64 x.seq, .string x.data]
def I64 (n : Int) : Prop := -9223372036854775808 ≤ n ∧ n ≤ 9223372036854775807
def Tc.wf (x : Tc) : Prop := I64 x.craft ∧ I64 x.chan ∧ I64 x.seq ∧ x.data.size ≤ maxLen
section
variable {H : Type} {enc : TypeId × Value → H} {w : World} {base : Nat} {spare : Nat → Bool} {held : Bool}
theorem tc_open {fuel : Nat} {cs : List Value} {x : DataW H × List MemPlace} (h : DataW.trod enc Try.prog w base spare held fuel 31 cs = some x) : ∃ f : Tc, cs = f.cells ∧ f.wf := by
  obtain ⟨hl, hf⟩ := trod_cells Try.underlying31 (by kernel_rfl) (by kernel_rfl) h
  obtain ⟨v0, y0, n0, e0, t0⟩ := hf 0 _ rfl
  obtain ⟨v1, y1, n1, e1, t1⟩ := hf 1 _ rfl
  obtain ⟨v2, y2, n2, e2, t2⟩ := hf 2 _ rfl
  obtain ⟨v3, y3, n3, e3, t3⟩ := hf 3 _ rfl
  obtain ⟨v4, y4, n4, e4, t4⟩ := hf 4 _ rfl
  obtain ⟨v5, y5, n5, e5, t5⟩ := hf 5 _ rfl
  obtain ⟨a0, c0, _, w0⟩ := DataW.trod_int Try.underlying3 t0
  obtain ⟨a1, c1, _, w1⟩ := DataW.trod_int Try.underlying3 t1
  obtain ⟨a2, c2, _⟩ := DataW.trod_bool Try.underlying4 t2
  obtain ⟨a3, c3, _⟩ := DataW.trod_bool Try.underlying4 t3
  obtain ⟨a4, c4, _, w4⟩ := DataW.trod_int Try.underlying3 t4
  obtain ⟨a5, c5, _, w5⟩ := DataW.trod_string Try.underlying9 t5
  injection c0 with c0; injection c1 with c1; injection c2 with c2; injection c3 with c3; injection c4 with c4; injection c5 with c5
  subst c0 c1 c2 c3 c4 c5
  refine ⟨⟨a0, a1, a2, a3, a4, a5⟩, ?_, bounds_i64 w0, bounds_i64 w1, bounds_i64 w4, w5⟩
  match cs, hl with
  | [d0, d1, d2, d3, d4, d5], _ =>
    simp only [List.getElem?_cons_zero, List.getElem?_cons_succ, Option.some.injEq] at e0 e1 e2 e3 e4 e5
    rw [e0, e1, e2, e3, e4, e5]; rfl
set_option maxRecDepth 100000 in
theorem open_tc {r : Reach} {b0 : Nat} {v : Value} {d : DataW H} {p : List MemPlace} (hv : Value.okWide Try.prog w r b0 31 v) (h : DataW.Trod enc Try.prog w base spare held 31 v d p) : ∃ f : Tc, v = f.val ∧ f.wf := by
  obtain ⟨cs, rfl, hsz⟩ := okWide_struct Try.underlying31 hv
  obtain ⟨fuel, hf⟩ := h
  obtain ⟨f, hc, hw⟩ := tc_open hf
  refine ⟨f, ?_, hw⟩
  obtain ⟨l⟩ := cs
  have : l = f.cells := hc
  rw [this]; rfl
end
/-- A control word. -/
structure Wd where
  chan : Int
  lockout : Bool
  wait : Bool
  retx : Bool
  bypd : Int
  next : Int
def Wd.cells (x : Wd) : List Value := [.int .i64 x.chan, .bool x.lockout, .bool x.wait, .bool x.retx, .int .i64 x.bypd, .int .i64 x.next]
def Wd.val (x : Wd) : Value := .agg #[.int .i64 x.chan, .bool x.lockout, .bool x.wait, .bool x.retx, .int .i64 x.bypd, .int .i64 x.next]
def Wd.wf (x : Wd) : Prop := I64 x.chan ∧ I64 x.bypd ∧ I64 x.next
section
variable {H : Type} {enc : TypeId × Value → H} {w : World} {base : Nat} {spare : Nat → Bool} {held : Bool}
theorem wd_open {fuel : Nat} {cs : List Value} {x : DataW H × List MemPlace} (h : DataW.trod enc Try.prog w base spare held fuel 35 cs = some x) : ∃ f : Wd, cs = f.cells ∧ f.wf := by
  obtain ⟨hl, hf⟩ := trod_cells Try.underlying35 (by kernel_rfl) (by kernel_rfl) h
  obtain ⟨v0, y0, n0, e0, t0⟩ := hf 0 _ rfl
  obtain ⟨v1, y1, n1, e1, t1⟩ := hf 1 _ rfl
  obtain ⟨v2, y2, n2, e2, t2⟩ := hf 2 _ rfl
  obtain ⟨v3, y3, n3, e3, t3⟩ := hf 3 _ rfl
  obtain ⟨v4, y4, n4, e4, t4⟩ := hf 4 _ rfl
  obtain ⟨v5, y5, n5, e5, t5⟩ := hf 5 _ rfl
  obtain ⟨a0, c0, _, w0⟩ := DataW.trod_int Try.underlying3 t0
  obtain ⟨a1, c1, _⟩ := DataW.trod_bool Try.underlying4 t1
  obtain ⟨a2, c2, _⟩ := DataW.trod_bool Try.underlying4 t2
  obtain ⟨a3, c3, _⟩ := DataW.trod_bool Try.underlying4 t3
  obtain ⟨a4, c4, _, w4⟩ := DataW.trod_int Try.underlying3 t4
  obtain ⟨a5, c5, _, w5⟩ := DataW.trod_int Try.underlying3 t5
  injection c0 with c0; injection c1 with c1; injection c2 with c2; injection c3 with c3; injection c4 with c4; injection c5 with c5
  subst c0 c1 c2 c3 c4 c5
  refine ⟨⟨a0, a1, a2, a3, a4, a5⟩, ?_, bounds_i64 w0, bounds_i64 w4, bounds_i64 w5⟩
  match cs, hl with
  | [d0, d1, d2, d3, d4, d5], _ =>
    simp only [List.getElem?_cons_zero, List.getElem?_cons_succ, Option.some.injEq] at e0 e1 e2 e3 e4 e5
    rw [e0, e1, e2, e3, e4, e5]; rfl
set_option maxRecDepth 100000 in
theorem open_wd {r : Reach} {b0 : Nat} {v : Value} {d : DataW H} {p : List MemPlace} (hv : Value.okWide Try.prog w r b0 35 v) (h : DataW.Trod enc Try.prog w base spare held 35 v d p) : ∃ f : Wd, v = f.val ∧ f.wf := by
  obtain ⟨cs, rfl, hsz⟩ := okWide_struct Try.underlying35 hv
  obtain ⟨fuel, hf⟩ := h
  obtain ⟨f, hc, hw⟩ := wd_open hf
  refine ⟨f, ?_, hw⟩
  obtain ⟨l⟩ := cs
  have : l = f.cells := hc
  rw [this]; rfl
end
end Go.Proofs.Ytbncejmohhejlaa
