/- What is proved here: commands among the arguments, opened. No condition. -/
import Derived.Test.YtincoocagfegfaaOpen
import Derived.OpenShut
import Derived.Test.YtincoocagfegfaaU2
set_option linter.unusedVariables false
set_option linter.unusedSimpArgs false
namespace Go.Proofs.Ytincoocagfegfaa
open Go.RowKit
open Go.ChangeShapes Go.WideShapes Go.ChangeAt Go.Deep
def I64 (n : Int) : Prop := -9223372036854775808 ≤ n ∧ n ≤ 9223372036854775807
theorem u64_of (n : Int) (h : (Lit.int .u64 n).wf = true) : ∃ x : BitVec 64, n = w64 x := by
  have h2 := bounds_u64 h
  exact ⟨BitVec.ofInt 64 n, by unfold w64; rw [BitVec.toNat_ofInt]; omega⟩
section
variable {H : Type} {enc : TypeId × Value → H} {w : World} {base : Nat} {spare : Nat → Bool} {held : Bool}
theorem cmd_open {fuel : Nat} {cs : List Value} {x : DataW H × List MemPlace} (h : DataW.trod enc Try.prog w base spare held fuel 24 cs = some x) : ∃ f : Cm, cs = f.cells ∧ f.args.size ≤ maxLen := by
  obtain ⟨hl, hf⟩ := trod_cells Try.underlying24 (by kernel_rfl) (by kernel_rfl) h
  obtain ⟨v0, y0, n0, e0, t0⟩ := hf 0 _ rfl
  obtain ⟨v1, y1, n1, e1, t1⟩ := hf 1 _ rfl
  obtain ⟨v2, y2, n2, e2, t2⟩ := hf 2 _ rfl
  obtain ⟨v3, y3, n3, e3, t3⟩ := hf 3 _ rfl
  obtain ⟨a0, c0, _, w0⟩ := DataW.trod_int Try.underlying3 t0
  obtain ⟨a1, c1, _, w1⟩ := DataW.trod_int Try.underlying22 t1
  obtain ⟨a2, c2, _, w2⟩ := DataW.trod_int Try.underlying3 t2
  obtain ⟨a3, c3, _, w3⟩ := DataW.trod_string Try.underlying9 t3
  injection c0 with c0; injection c1 with c1; injection c2 with c2; injection c3 with c3
  subst c0 c1 c2 c3
  obtain ⟨n, rfl⟩ := u64_of a1 w1
  refine ⟨⟨a0, n, a2, a3⟩, ?_, w3⟩
  match cs, hl with
  | [d0, d1, d2, d3], _ =>
    simp only [List.getElem?_cons_zero, List.getElem?_cons_succ, Option.some.injEq] at e0 e1 e2 e3
    rw [e0, e1, e2, e3]; rfl
set_option maxRecDepth 100000 in
theorem open_cmd {r : Reach} {b0 : Nat} {v : Value} {d : DataW H} {p : List MemPlace} (hv : Value.okWide Try.prog w r b0 24 v) (h : DataW.Trod enc Try.prog w base spare held 24 v d p) : ∃ f : Cm, v = f.val ∧ f.args.size ≤ maxLen := by
  obtain ⟨cs, rfl, hsz⟩ := okWide_struct Try.underlying24 hv
  obtain ⟨fuel, hf⟩ := h
  obtain ⟨f, hc, hw⟩ := cmd_open hf
  refine ⟨f, ?_, hw⟩
  obtain ⟨l⟩ := cs
  have : l = f.cells := hc
  rw [this]; rfl
end
end Go.Proofs.Ytincoocagfegfaa
