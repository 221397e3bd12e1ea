/- What is proved here: data that is to be opened, and lists of such, among the arguments, opened. No condition. -/
import Derived.Test.YtincoocagfegfaaOc
import Derived.Deep.Slices
import Derived.Deep.Strs
set_option linter.unusedVariables false
set_option linter.unusedSimpArgs false
namespace Go.Proofs.Ytincoocagfegfaa
open Go.RowKit
open Go.ChangeShapes Go.WideShapes Go.ChangeAt Go.Deep
/-- Data that is opened in a channel. -/
structure Tr where
  chan : Int
  data : ByteArray
  again : Bool
def Tr.cells (t : Tr) : List Value := [.int .i64 t.chan, .string t.data, .bool t.again]
def Tr.val (t : Tr) : Value := .agg #[.int .i64 t.chan, .string t.data, .bool t.again]
instance : Inhabited Tr := ⟨⟨0, .empty, false⟩⟩
def TrCells (w : World) (b off : Nat) (t : Tr) : Prop := ∀ (j : Nat) (v : Value), t.cells[j]? = some v → w.cell? ⟨b, off + j, none⟩ = some v
def TrsAt (w : World) (a : Option Addr) (n : Nat) (S : Nat → Tr) : Prop := ∀ i, i < n → ∃ b off, a = some ⟨b, off, none⟩ ∧ b < w.heap.size ∧ TrCells w b (off + i * 3) (S i)
theorem TrCells.below {w w' : World} {b off B : Nat} {t : Tr} (h : TrCells w b off t) (k : Below B w w') (hb : b < B) : TrCells w' b off t :=
  fun j v hj => (k.cell (p := ⟨b, off + j, none⟩) hb).trans (h j v hj)
section
variable {H : Type} {enc : TypeId × Value → H} {w : World} {base : Nat} {spare : Nat → Bool} {held : Bool}
theorem try_open {fuel : Nat} {cs : List Value} {x : DataW H × List MemPlace} (h : DataW.trod enc Try.prog w base spare held fuel 51 cs = some x) : ∃ f : Tr, cs = f.cells ∧ f.data.size ≤ maxLen := by
  obtain ⟨hl, hf⟩ := trod_cells Try.underlying51 (by kernel_rfl) (by kernel_rfl) h
  obtain ⟨v0, y0, n0, e0, t0⟩ := hf 0 _ rfl
  obtain ⟨v1, y1, n1, e1, t1⟩ := hf 1 _ rfl
  obtain ⟨v2, y2, n2, e2, t2⟩ := hf 2 _ rfl
  obtain ⟨a0, c0, _, w0⟩ := DataW.trod_int Try.underlying3 t0
  obtain ⟨a1, c1, _, w1⟩ := DataW.trod_string Try.underlying9 t1
  obtain ⟨a2, c2, _⟩ := DataW.trod_bool Try.underlying4 t2
  injection c0 with c0; injection c1 with c1; injection c2 with c2
  subst c0 c1 c2
  refine ⟨⟨a0, a1, a2⟩, ?_, w1⟩
  match cs, hl with
  | [d0, d1, d2], _ =>
    simp only [List.getElem?_cons_zero, List.getElem?_cons_succ, Option.some.injEq] at e0 e1 e2
    rw [e0, e1, e2]; rfl
set_option maxRecDepth 100000 in
theorem open_try {r : Reach} {b0 : Nat} {v : Value} {d : DataW H} {p : List MemPlace} (hv : Value.okWide Try.prog w r b0 51 v) (h : DataW.Trod enc Try.prog w base spare held 51 v d p) : ∃ f : Tr, v = f.val ∧ f.data.size ≤ maxLen := by
  obtain ⟨cs, rfl, hsz⟩ := okWide_struct Try.underlying51 hv
  obtain ⟨fuel, hf⟩ := h
  obtain ⟨f, hc, hw⟩ := try_open hf
  refine ⟨f, ?_, hw⟩
  obtain ⟨l⟩ := cs
  have : l = f.cells := hc
  rw [this]; rfl
set_option maxRecDepth 100000 in
theorem open_trys {r : Reach} {b0 : Nat} {v : Value} {d : DataW H} {p : List MemPlace} (hv : Value.okWide Try.prog w r b0 56 v) (h : DataW.Trod enc Try.prog w base spare held 56 v d p) :
    ∃ a n cap S, v = .slice a n cap ∧ n ≤ 9223372036854775807 ∧ TrsAt w a n S := by
  obtain ⟨fuel, hf⟩ := h
  obtain ⟨a0, len, cap, rfl⟩ := okWide_slice Try.underlying56 hv
  rcases open_slice Try.underlying56 hf with ⟨hcs, hx⟩ | ⟨a, len', cap', m, n, D, Pl, hcs, hb, hl, hm, hmm, hx, hel⟩
  · simp [Value.cells] at hcs
    obtain ⟨rfl, rfl, rfl⟩ := hcs
    exact ⟨none, 0, 0, fun _ => default, rfl, by omega, fun i hi => by omega⟩
  · simp [Value.cells] at hcs
    obtain ⟨rfl, rfl, rfl⟩ := hcs
    have hc3 : Try.prog.cellsOf 51 = 3 := by kernel_rfl
    have hlm : len ≤ m := by rw [hmm]; split <;> omega
    obtain ⟨b, off, spot⟩ := a
    have hspot : 0 < len → spot = none := fun h0 => by
      obtain ⟨cs', h1, h2⟩ := hel 0 (by omega)
      obtain ⟨s, rfl, hw⟩ := try_open h2
      rw [hc3] at h1
      obtain ⟨_, _, hc⟩ := World.cells?_some h1
      have c0 := hc 0 (by omega)
      have := World.cell?_spot (c0.trans rfl)
      simpa [Addr.add] using this
    have each : ∀ i, i < len → ∃ s : Tr, b < w.heap.size ∧ TrCells w b (off + i * 3) s := fun i hi => by
      obtain ⟨cs', h1, h2⟩ := hel i (by omega)
      obtain ⟨s, rfl, hw⟩ := try_open h2
      rw [hc3] at h1
      obtain ⟨_, _, hc⟩ := World.cells?_some h1
      obtain rfl := hspot (by omega)
      have hcell : ∀ j, j < 3 → w.cell? ⟨b, off + i * 3 + j, none⟩ = s.cells[j]? := fun j hj => by
        have := hc j hj
        rw [add_add] at this
        rw [← this]
        congr 1
        unfold Addr.add
        split
        · rename_i h; rw [show off + i * 3 + j = off by omega]
        · simp only [Addr.mk.injEq, and_true, true_and]; omega
      refine ⟨s, World.block_lt_of_cell? _ _ ((hcell 0 (by omega)).trans rfl), ?_⟩
      intro j v hjv
      have hj : j < 3 := (List.getElem?_eq_some_iff.1 hjv).1
      rw [hcell j hj]; exact hjv
    obtain ⟨S, hS⟩ := choose_lt (α := Tr) each
    refine ⟨some ⟨b, off, spot⟩, len, cap, S, rfl, ?_, fun i hi => ?_⟩
    · have : cap ≤ 9223372036854775807 := hm
      omega
    · obtain ⟨h1, h2⟩ := hS i hi
      obtain rfl := hspot (by omega)
      exact ⟨b, off, rfl, h1, h2⟩
end
end Go.Proofs.Ytincoocagfegfaa
