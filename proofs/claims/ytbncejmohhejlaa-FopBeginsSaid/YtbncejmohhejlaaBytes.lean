/- What is proved here: lemmas on bytes in memory; numbers made of bytes. No condition. -/
import Derived.Test.YtbncejmohhejlaaProg
import Derived.Test.YtbncejmohhejlaaMem
set_option linter.unusedVariables false
set_option linter.unusedSimpArgs false
namespace Go.Proofs.Ytbncejmohhejlaa
open Go.RowKit
def vb (c : UInt8) : Value := .int .u8 (c.toNat : Int)
def z8 (c : UInt8) : BitVec 64 := BitVec.ofNat 64 c.toNat
theorem w64_z8 (c : UInt8) : w64 (z8 c) = (c.toNat : Int) := by
  have := c.toNat_lt; unfold z8; rw [w64_ofNat]; omega
@[go_sem] theorem w64_or_byte (x : BitVec 64) (c : UInt8) : bits .or .u64 (w64 x) ((c.toNat : Nat) : Int) = w64 (x ||| z8 c) := by rw [← w64_z8, w64_or]
@[go_sem] theorem w64_add_byte (x : BitVec 64) (c : UInt8) : IntKind.u64.wrap (w64 x + ((c.toNat : Nat) : Int)) = w64 (x + z8 c) := by rw [← w64_z8, w64_add]
@[go_sem] theorem wrap64_byte' (c : UInt8) : IntKind.u64.wrap ((c.toNat : Nat) : Int) = ((c.toNat : Nat) : Int) := by rw [← w64_z8, w64_wrap]
theorem w64_zero : w64 0#64 = 0 := rfl
/-- The low byte of a word. -/
def lo8 (x : BitVec 64) : UInt8 := UInt8.ofNat (x.toNat % 256)
@[go_sem] theorem wrap_u8_w64 (x : BitVec 64) : IntKind.u8.wrap (w64 x) = ((lo8 x).toNat : Int) := by
  simp only [IntKind.wrap, IntKind.bits, IntKind.signed, w64, lo8]; simp

/-- The bytes' number, the first byte the lowest. -/
def numLE : List UInt8 → BitVec 64
  | [] => 0
  | c :: r => numLE r <<< 8 ||| z8 c
theorem numLE_drop (xs : List UInt8) (i : Nat) (h : i < xs.length) : numLE (xs.drop i) = numLE (xs.drop (i + 1)) <<< 8 ||| z8 xs[i] := by
  rw [List.drop_eq_getElem_cons h, numLE]

theorem ownsRow_keep {S : List Nat} {w w' : World} {base : Nat} {e : TypeId} {size : Nat} {v : Value} {n : Nat} {xs : List Value} (h : w.ownsRow base e size v n xs) (k : Keep S w w')
    (hn : ∀ g, v.ownBlock = some g → g ∉ S) : w'.ownsRow base e size v n xs := by
  obtain ⟨h1, h2⟩ := h
  refine ⟨h1, ?_⟩
  rcases h2 with h2 | ⟨g, cap, cur, hv, hg, hh, r⟩
  · exact .inl h2
  · have hlt : g < w.heap.size := (Array.getElem?_eq_some_iff.1 hh).1
    exact .inr ⟨g, cap, cur, hv, hg, by rw [k.block g hlt (hn g (by rw [hv]; rfl))]; exact hh, r⟩
theorem Keep.toBelowAt {S : List Nat} {w w' : World} (k : Keep S w w') {B : Nat} (hB : B ≤ w.heap.size) (hS : ∀ i, i ∈ S → B ≤ i) : Below B w w' :=
  ⟨k.os, k.tape, k.output, k.size, fun i hi => k.block i (by omega) (fun e => by have := hS i e; omega)⟩
theorem Keep.ofBelow {w w' : World} (k : Below w.heap.size w w') : Keep [] w w' := ⟨k.os, k.tape, k.output, k.size, fun i hi _ => k.block i hi⟩
theorem Keep.ofGrown {w w' : World} {g : Nat} (k : w.grownBy w' (some g)) : Keep [g] w w' := ⟨k.os, k.tape, k.output, k.size, fun i hi hn => k.block i hi (fun e => hn (by injection e with e; subst e; simp))⟩
theorem Keep.ofGrownV {w w' : World} {v : Value} {S : List Nat} (k : w.grownBy w' v.ownBlock) (h : ∀ g, v.ownBlock = some g → g ∈ S) : Keep S w w' :=
  ⟨k.os, k.tape, k.output, k.size, fun i hi hn => k.block i hi (fun e => hn (h i e.symm))⟩

theorem info_u8 : (Try.prog.info? 5).map (fun i => (i.zero, i.size, i.bytes)) = some (some (.int .u8 0), 1, 1) := by kernel_rfl
end Go.Proofs.Ytbncejmohhejlaa
