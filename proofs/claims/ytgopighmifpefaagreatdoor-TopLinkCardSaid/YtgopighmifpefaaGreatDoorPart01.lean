/- What is proved here: a part of the proof of TopLink (texts Words Mem Bytes Row Str Still Kit Crc Ct1 Crc2 C1). No condition. -/
import Derived.WalkKit
import Derived.WalkSpells
import Derived.WalkLawsBesides
import Derived.Lib.Hide
import Derived.Handy
import Derived.BigQuiet
import Derived.Deep.QuietTactic
import Derived.Test.YtgopighmifpefaaGreatDoorProg
import Derived.ArgAppend
import Derived.Lib.AppendStr
import Derived.Lib.ConvBytes
import Derived.Laws.IdiomStrings
import Derived.Laws.BytesString
import Derived.RegionTactic
import Derived.ChangeAlike
import Derived.StillTailTactics
import Derived.IntWalk
import Derived.Laws.Tables
import Derived.Laws.Rows
import Derived.Deep.WholeRow
set_option linter.unusedVariables false
set_option linter.unusedSimpArgs false
namespace Go.Proofs.YtgopighmifpefaaGreatDoor
section
open Go.RowKit
/-- A word of 16 bits as the number that the model holds. -/
def w16 (x : BitVec 16) : Int := (x.toNat : Int)
theorem w16_def (x : BitVec 16) : w16 x = (x.toNat : Int) := rfl
theorem w16_nonneg (x : BitVec 16) : 0 ≤ w16 x := by unfold w16; omega
theorem w16_lt (x : BitVec 16) : w16 x < 65536 := by have := x.isLt; unfold w16; omega
theorem w16_ofInt (x : BitVec 16) : BitVec.ofInt 16 (w16 x) = x := by unfold w16; rw [BitVec.ofInt_natCast]; simp
theorem w16_wrap (x : BitVec 16) : IntKind.u16.wrap (w16 x) = w16 x := by
  have := w16_lt x; have := w16_nonneg x; simp only [IntKind.wrap, IntKind.bits, IntKind.signed]; simp; omega
theorem w16_ofNat (k : Nat) : w16 (BitVec.ofNat 16 k) = ((k % 65536 : Nat) : Int) := by simp [w16]
@[go_sem] theorem w16_xor (x y : BitVec 16) : bits .xor .u16 (w16 x) (w16 y) = w16 (x ^^^ y) := by
  simp only [bits, IntKind.bits, w16_ofInt]; exact w16_wrap _
@[go_sem] theorem w16_or (x y : BitVec 16) : bits .or .u16 (w16 x) (w16 y) = w16 (x ||| y) := by
  simp only [bits, IntKind.bits, w16_ofInt]; exact w16_wrap _
@[go_sem] theorem w16_and (x y : BitVec 16) : bits .and .u16 (w16 x) (w16 y) = w16 (x &&& y) := by
  simp only [bits, IntKind.bits, w16_ofInt]; exact w16_wrap _
theorem w16_and_lit (x : BitVec 16) (k : Int) : bits .and .u16 (w16 x) k = w16 (x &&& BitVec.ofInt 16 k) := by
  simp only [bits, IntKind.bits, w16_ofInt]; exact w16_wrap _
theorem w16_mul_lit (x : BitVec 16) (k : Nat) : IntKind.u16.wrap (w16 x * k) = w16 (x * BitVec.ofNat 16 k) := by
  simp only [IntKind.wrap, IntKind.bits, IntKind.signed, w16, BitVec.toNat_mul, BitVec.toNat_ofNat]; simp
theorem w16_shl (x : BitVec 16) (k : Nat) : IntKind.u16.wrap (w16 x * ((2 ^ k : Nat) : Int)) = w16 (x <<< k) := by
  simp only [IntKind.wrap, IntKind.bits, IntKind.signed, w16, BitVec.toNat_shiftLeft, Nat.shiftLeft_eq]; simp
theorem w16_shr (x : BitVec 16) (k : Nat) : w16 x / ((2 ^ k : Nat) : Int) = w16 (x >>> k) := by
  simp only [w16, BitVec.toNat_ushiftRight, Nat.shiftRight_eq_div_pow]; exact (Int.natCast_ediv _ _).symm
@[go_sem] theorem w16_shl1 (x : BitVec 16) : IntKind.u16.wrap (w16 x * (2 : Int)) = w16 (x <<< 1) := w16_shl x 1
@[go_sem] theorem w16_shl8 (x : BitVec 16) : IntKind.u16.wrap (w16 x * (256 : Int)) = w16 (x <<< 8) := w16_shl x 8
@[go_sem] theorem w16_shr8 (x : BitVec 16) : w16 x / (256 : Int) = w16 (x >>> 8) := w16_shr x 8
@[go_sem] theorem w16_shr15 (x : BitVec 16) : w16 x / (32768 : Int) = w16 (x >>> 15) := w16_shr x 15
/-- A word of 32 bits as the number that the model holds. -/
def w32 (x : BitVec 32) : Int := (x.toNat : Int)
theorem w32_nonneg (x : BitVec 32) : 0 ≤ w32 x := by unfold w32; omega
theorem w32_lt (x : BitVec 32) : w32 x < 4294967296 := by have := x.isLt; unfold w32; omega
theorem w32_ofInt (x : BitVec 32) : BitVec.ofInt 32 (w32 x) = x := by unfold w32; rw [BitVec.ofInt_natCast]; simp
theorem w32_wrap (x : BitVec 32) : IntKind.u32.wrap (w32 x) = w32 x := by
  have := w32_lt x; have := w32_nonneg x; simp only [IntKind.wrap, IntKind.bits, IntKind.signed]; simp; omega
theorem w32_ofNat (k : Nat) : w32 (BitVec.ofNat 32 k) = ((k % 4294967296 : Nat) : Int) := by simp [w32]
@[go_sem] theorem w32_or (x y : BitVec 32) : bits .or .u32 (w32 x) (w32 y) = w32 (x ||| y) := by
  simp only [bits, IntKind.bits, w32_ofInt]; exact w32_wrap _
@[go_sem] theorem w32_and (x y : BitVec 32) : bits .and .u32 (w32 x) (w32 y) = w32 (x &&& y) := by
  simp only [bits, IntKind.bits, w32_ofInt]; exact w32_wrap _
/-- A word of 64 bits as the number that the model holds. -/
def w64 (x : BitVec 64) : Int := (x.toNat : Int)
theorem w64_nonneg (x : BitVec 64) : 0 ≤ w64 x := by unfold w64; omega
theorem w64_lt (x : BitVec 64) : w64 x < 18446744073709551616 := by have := x.isLt; unfold w64; omega
theorem w64_ofInt (x : BitVec 64) : BitVec.ofInt 64 (w64 x) = x := by unfold w64; rw [BitVec.ofInt_natCast]; simp
theorem w64_wrap (x : BitVec 64) : IntKind.u64.wrap (w64 x) = w64 x := by
  have := w64_lt x; have := w64_nonneg x; simp only [IntKind.wrap, IntKind.bits, IntKind.signed]; simp; omega
theorem w64_ofNat (k : Nat) : w64 (BitVec.ofNat 64 k) = ((k % 18446744073709551616 : Nat) : Int) := by simp [w64]
@[go_sem] theorem w64_or (x y : BitVec 64) : bits .or .u64 (w64 x) (w64 y) = w64 (x ||| y) := by
  simp only [bits, IntKind.bits, w64_ofInt]; exact w64_wrap _
theorem w64_shl (x : BitVec 64) (k : Nat) : IntKind.u64.wrap (w64 x * ((2 ^ k : Nat) : Int)) = w64 (x <<< k) := by
  simp only [IntKind.wrap, IntKind.bits, IntKind.signed, w64, BitVec.toNat_shiftLeft, Nat.shiftLeft_eq]; simp
@[go_sem] theorem w64_shl8 (x : BitVec 64) : IntKind.u64.wrap (w64 x * (256 : Int)) = w64 (x <<< 8) := w64_shl x 8
end
section
open Go.RowKit
/-- Outside the blocks S, and below the size that the heap had, nothing has changed. -/
structure Keep (S : List Nat) (w w' : World) : Prop where
  os : w'.os = w.os
  tape : w'.tape = w.tape
  output : w'.output = w.output
  size : w.heap.size ≤ w'.heap.size
  block : ∀ k, k < w.heap.size → k ∉ S → w'.heap[k]? = w.heap[k]?
namespace Keep
theorem refl (S : List Nat) (w : World) : Keep S w w := ⟨rfl, rfl, rfl, Nat.le_refl _, fun _ _ _ => rfl⟩
theorem trans {S : List Nat} {a b c : World} (h : Keep S a b) (k : Keep S b c) : Keep S a c :=
  ⟨k.os.trans h.os, k.tape.trans h.tape, k.output.trans h.output, Nat.le_trans h.size k.size,
    fun i hi hn => (k.block i (Nat.lt_of_lt_of_le hi h.size) hn).trans (h.block i hi hn)⟩
/-- Two steps, of which the second may also touch what is new. -/
theorem trans_new {S T : List Nat} {a b c : World} (h : Keep S a b) (k : Keep T b c) (ht : ∀ i, i ∈ T → i ∈ S ∨ a.heap.size ≤ i) : Keep S a c :=
  ⟨k.os.trans h.os, k.tape.trans h.tape, k.output.trans h.output, Nat.le_trans h.size k.size,
    fun i hi hn => (k.block i (Nat.lt_of_lt_of_le hi h.size) (fun e => by rcases ht i e with g | g; exact hn g; omega)).trans (h.block i hi hn)⟩
theorem mono {S T : List Nat} {a b : World} (h : Keep S a b) (hs : ∀ i, i ∈ S → i ∈ T) : Keep T a b :=
  ⟨h.os, h.tape, h.output, h.size, fun i hi hn => h.block i hi (fun e => hn (hs i e))⟩
theorem drew {S : List Nat} {a w : World} (h : Keep S a w) : Keep S a w.drew := ⟨h.os, h.tape, h.output, h.size, h.block⟩
theorem drewN {S : List Nat} {a w : World} (h : Keep S a w) (n : Nat) : Keep S a (w.drewN n) := ⟨h.os, h.tape, h.output, h.size, h.block⟩
theorem alloc {S : List Nat} {a w : World} (h : Keep S a w) (o : Obj) : Keep S a (w.alloc o) :=
  ⟨h.os, h.tape, h.output, Nat.le_trans h.size (by simp), fun i hi hn => (Below.heap_alloc w o i (Nat.lt_of_lt_of_le hi h.size)).trans (h.block i hi hn)⟩
theorem setCell {S : List Nat} {a w : World} (h : Keep S a w) {p : Addr} (hp : p.block ∈ S ∨ a.heap.size ≤ p.block) (u : Value) : Keep S a (w.setCell p u) :=
  ⟨h.os, h.tape, h.output, by simpa [World.setCell] using h.size, fun i hi hn => (Below.heap_setCell w p u i (by
    rintro rfl
    rcases hp with hp | hp
    · exact hn hp
    · omega)).trans (h.block i hi hn)⟩
theorem below {S : List Nat} {a w w' : World} (h : Keep S a w) {B : Nat} (hb : Below B w w') (hB : a.heap.size ≤ B) : Keep S a w' :=
  ⟨hb.os.trans h.os, hb.tape.trans h.tape, hb.output.trans h.output, Nat.le_trans h.size hb.size,
    fun i hi hn => (hb.block i (by omega)).trans (h.block i hi hn)⟩
theorem toBelow {a w : World} (h : Keep [] a w) : Below a.heap.size a w := ⟨h.os, h.tape, h.output, h.size, fun i hi => h.block i hi (by simp)⟩
theorem cell {S : List Nat} {a w : World} (h : Keep S a w) {p : Addr} (hl : p.block < a.heap.size) (hn : p.block ∉ S) : w.cell? p = a.cell? p := World.cell?_of_block (w := a) (h.block _ hl hn)
end Keep
/-- Block b is an ordinary one that holds these values. -/
def Blk (w : World) (b : Nat) (vs : List Value) (t : TypeId) : Prop := w.heap[b]? = some (.cells vs.toArray t (0, 0))
namespace Blk
theorem lt {w : World} {b : Nat} {vs : List Value} {t : TypeId} (h : Blk w b vs t) : b < w.heap.size := by
  unfold Blk at h; exact (Array.getElem?_eq_some_iff.1 h).1
theorem cell {w : World} {b : Nat} {vs : List Value} {t : TypeId} (h : Blk w b vs t) (i : Nat) : w.cell? ⟨b, i, none⟩ = vs[i]? := by
  unfold Blk at h; simp [World.cell?, h]
theorem free {w : World} {b : Nat} {vs : List Value} {t : TypeId} (h : Blk w b vs t) (i : Nat) : w.frozen? ⟨b, i, none⟩ = false := by
  unfold Blk at h; simp [World.frozen?, h]
theorem set {w : World} {b : Nat} {vs : List Value} {t : TypeId} (h : Blk w b vs t) (i : Nat) (u : Value) : Blk (w.setCell ⟨b, i, none⟩ u) b (vs.set i u) t := by
  unfold Blk at *
  have hlt := (Array.getElem?_eq_some_iff.1 h).1
  simp [World.setCell, Array.getElem?_modify, h]
theorem set_far {w : World} {b : Nat} {vs : List Value} {t : TypeId} (h : Blk w b vs t) {p : Addr} (hp : b ≠ p.block) (u : Value) : Blk (w.setCell p u) b vs t := by
  unfold Blk at *; rw [Below.heap_setCell _ _ _ _ hp]; exact h
theorem drew {w : World} {b : Nat} {vs : List Value} {t : TypeId} (h : Blk w b vs t) : Blk w.drew b vs t := h
theorem drewN {w : World} {b : Nat} {vs : List Value} {t : TypeId} (h : Blk w b vs t) (n : Nat) : Blk (w.drewN n) b vs t := h
theorem alloc {w : World} {b : Nat} {vs : List Value} {t : TypeId} (h : Blk w b vs t) (o : Obj) : Blk (w.alloc o) b vs t := by
  have := h.lt; unfold Blk at *; rw [Below.heap_alloc _ _ _ this]; exact h
theorem new (w : World) (vs : List Value) (t : TypeId) : Blk (w.alloc (.cells vs.toArray t)) w.heap.size vs t := by
  unfold Blk World.alloc; simp
theorem new_at (w : World) (vs : List Value) (t : TypeId) (g : Nat) (hg : g = w.heap.size) : Blk (w.alloc (.cells vs.toArray t)) g vs t := by
  subst hg; exact new w vs t
theorem keep {S : List Nat} {w w' : World} {b : Nat} {vs : List Value} {t : TypeId} (h : Blk w b vs t) (k : Keep S w w') (hn : b ∉ S) : Blk w' b vs t := by
  have := h.lt; unfold Blk at *; rw [k.block b this hn]; exact h
theorem below {w w' : World} {b B : Nat} {vs : List Value} {t : TypeId} (h : Blk w b vs t) (k : Below B w w') (hb : b < B) : Blk w' b vs t := by
  unfold Blk at *; rw [k.block b hb]; exact h
end Blk
end
section
open Go.RowKit
def vb (c : UInt8) : Value := .int .u8 (c.toNat : Int)
def z8 (c : UInt8) : BitVec 64 := BitVec.ofNat 64 c.toNat
theorem w64_z8 (c : UInt8) : w64 (z8 c) = (c.toNat : Int) := by
  have := c.toNat_lt; unfold z8; rw [w64_ofNat]; omega
@[go_sem] theorem w64_or_byte (x : BitVec 64) (c : UInt8) : bits .or .u64 (w64 x) ((c.toNat : Nat) : Int) = w64 (x ||| z8 c) := by rw [← w64_z8, w64_or]
@[go_sem] theorem wrap64_byte' (c : UInt8) : IntKind.u64.wrap ((c.toNat : Nat) : Int) = ((c.toNat : Nat) : Int) := by rw [← w64_z8, w64_wrap]
theorem ownsRow_keep {S : List Nat} {w w' : World} {base : Nat} {e : TypeId} {size : Nat} {v : Value} {n : Nat} {xs : List Value} (h : w.ownsRow base e size v n xs) (k : Keep S w w')
    (hn : ∀ g, v.ownBlock = some g → g ∉ S) : w'.ownsRow base e size v n xs := by
  obtain ⟨h1, h2⟩ := h
  refine ⟨h1, ?_⟩
  rcases h2 with h2 | ⟨g, cap, cur, hv, hg, hh, r⟩
  · exact .inl h2
  · have hlt : g < w.heap.size := (Array.getElem?_eq_some_iff.1 hh).1
    exact .inr ⟨g, cap, cur, hv, hg, by rw [k.block g hlt (hn g (by rw [hv]; rfl))]; exact hh, r⟩
theorem Keep.toBelowAt {S : List Nat} {w w' : World} (k : Keep S w w') {B : Nat} (hB : B ≤ w.heap.size) (hS : ∀ i, i ∈ S → B ≤ i) : Below B w w' :=
  ⟨k.os, k.tape, k.output, k.size, fun i hi => k.block i (by omega) (fun e => by have := hS i e; omega)⟩
theorem Keep.ofGrownV {w w' : World} {v : Value} {S : List Nat} (k : w.grownBy w' v.ownBlock) (h : ∀ g, v.ownBlock = some g → g ∈ S) : Keep S w w' :=
  ⟨k.os, k.tape, k.output, k.size, fun i hi hn => k.block i hi (fun e => hn (h i e.symm))⟩
theorem info_u8 : (Tryz.prog.info? 5).map (fun i => (i.zero, i.size, i.bytes)) = some (some (.int .u8 0), 1, 1) := by kernel_rfl
end
section
open Go.RowKit
/-- A slice of bytes of the call's own, from block 'base' on: nil, or the head of a block of which no cell is frozen. -/
def Row (w : World) (base : Nat) (v : Value) (xs : List UInt8) : Prop :=
  (v = .slice none 0 0 ∧ xs = []) ∨
  ∃ g cap cur fr, v = .slice (some ⟨g, 0, none⟩) xs.length cap ∧ base ≤ g ∧ w.heap[g]? = some (.cells cur 5 fr) ∧ (fr.2 = 0 ∨ cur.size ≤ fr.1) ∧
    xs.length ≤ cap ∧ cap ≤ maxLen ∧ cur.size = cap ∧ cur.toList.take xs.length = xs.map vb
theorem run_storeCells_free (P : Program) (g o : Nat) (t : TypeId) (fz : Nat × Nat) : ∀ (vs : List Value) (i : Nat) (cur : Array Value) (w : World), w.heap[g]? = some (.cells cur t fz) → (fz.2 = 0 ∨ cur.size ≤ fz.1) → o + i + vs.length ≤ cur.size → (∀ v ∈ vs, v.oneCell' = true) →
    (storeCells ⟨g, o, none⟩ vs i).run P w = .ok () (w.setRow g (cur.toList.take (o + i) ++ vs ++ cur.toList.drop (o + i + vs.length)).toArray)
  | [], i, cur, w, hg, _, _, _ => by
    simp only [storeCells, List.append_nil, List.length_nil, Nat.add_zero, List.take_append_drop, Array.toArray_toList]
    rw [setRow_self w g cur t fz hg]
    rfl
  | v :: rest, i, cur, w, hg, hfz, hl, h1 => by
    have hi : o + i < cur.size := by simp at hl; omega
    have hadd : (⟨g, o, none⟩ : Addr).add i = ⟨g, o + i, none⟩ := by unfold Addr.add; split <;> simp_all
    have hcell : w.cell? ⟨g, o + i, none⟩ = some cur[o + i] := by simp [World.cell?, hg, hi]
    have hfro : w.frozen? ⟨g, o + i, none⟩ = false := by
      obtain ⟨lo, hi'⟩ := fz
      simp only [World.frozen?, hg, Bool.and_eq_false_iff, decide_eq_false_iff_not]
      simp only at hfz
      omega
    have hst : (store ((⟨g, o, none⟩ : Addr).add i) v).run P w = .ok () (w.setRow g (cur.setIfInBounds (o + i) v)) := by
      rw [hadd, run_store P w _ v _ (h1 v (by simp)), hcell]
      simp [hfro, setCell_eq_setRow w g (o + i) cur t fz v hg]
    have ih := run_storeCells_free P g o t fz rest (i + 1) (cur.setIfInBounds (o + i) v) (w.setRow g (cur.setIfInBounds (o + i) v)) (setRow_heap w g cur _ t _ hg) (by simpa using hfz) (by simp at hl ⊢; omega) (fun x hx => h1 x (by simp [hx]))
    simp only [storeCells, Sem.run_bind, hst, Result.andThen_ok, ih, setRow_setRow]
    congr 3
    have e := list_seg_step cur.toList (o + i) v rest (by simp at hl ⊢; omega)
    simpa [Array.toList_setIfInBounds, Nat.add_assoc] using e
theorem vb_one : ∀ (xs : List UInt8), ∀ u ∈ xs.map vb, u.oneCell' = true := by
  intro xs u hu
  obtain ⟨c, _, rfl⟩ := List.mem_map.1 hu
  rfl
theorem row_nil (w : World) (base : Nat) : Row w base (.slice none 0 0) [] := .inl ⟨rfl, rfl⟩
theorem row_lt {w : World} {base : Nat} {v : Value} {xs : List UInt8} (h : Row w base v xs) : ∀ k, v.ownBlock = some k → base ≤ k ∧ k < w.heap.size := by
  intro k hk
  rcases h with ⟨rfl, _⟩ | ⟨g, cap, cur, fr, rfl, hb, hg, _⟩
  · cases hk
  · obtain rfl : g = k := by injection hk
    exact ⟨hb, (Array.getElem?_eq_some_iff.1 hg).1⟩
theorem row_keep {S : List Nat} {w w' : World} {base : Nat} {v : Value} {xs : List UInt8} (h : Row w base v xs) (k : Keep S w w') (hn : ∀ g, v.ownBlock = some g → g ∉ S) : Row w' base v xs := by
  rcases h with h | ⟨g, cap, cur, fr, hv, hb, hg, r⟩
  · exact .inl h
  · exact .inr ⟨g, cap, cur, fr, hv, hb, by rw [k.block g (Array.getElem?_eq_some_iff.1 hg).1 (hn g (by rw [hv]; rfl))]; exact hg, r⟩
theorem row_below {w w' : World} {base B : Nat} {v : Value} {xs : List UInt8} (h : Row w base v xs) (k : Below B w w') (hB : w.heap.size ≤ B) : Row w' base v xs := by
  rcases h with h | ⟨g, cap, cur, fr, hv, hb, hg, r⟩
  · exact .inl h
  · exact .inr ⟨g, cap, cur, fr, hv, hb, by rw [k.block g (by have := (Array.getElem?_eq_some_iff.1 hg).1; omega)]; exact hg, r⟩
theorem row_mono {w : World} {base base' : Nat} {v : Value} {xs : List UInt8} (h : Row w base v xs) (hb : base' ≤ base) : Row w base' v xs := by
  rcases h with h | ⟨g, cap, cur, fr, hv, hb', r⟩
  · exact .inl h
  · exact .inr ⟨g, cap, cur, fr, hv, by omega, r⟩
theorem row_cells {w : World} {base : Nat} {v : Value} {xs : List UInt8} (h : Row w base v xs) {g : Nat} (hg : v.ownBlock = some g) : ∀ j u, (xs.map vb)[j]? = some u → w.cell? ⟨g, j, none⟩ = some u := by
  intro j u hu
  rcases h with ⟨rfl, _⟩ | ⟨g', cap, cur, fr, rfl, hb, hgg, _, _, _, _, ht⟩
  · cases hg
  · obtain rfl : g' = g := by injection hg
    rw [← ht, List.getElem?_take] at hu
    split at hu
    · rw [cell_of_row w g' j cur _ fr hgg]; simpa using hu
    · cases hu
theorem row_form {w : World} {base : Nat} {v : Value} {xs : List UInt8} (h : Row w base v xs) : ∃ a cap, v = .slice a xs.length cap := by
  rcases h with ⟨rfl, rfl⟩ | ⟨g', cap, cur, fr, rfl, _⟩
  · exact ⟨none, 0, rfl⟩
  · exact ⟨_, _, rfl⟩
section
variable {P : Program} (w : World)
set_option maxHeartbeats 2000000 in
theorem run_append_row (base : Nat) (t u ty : TypeId) (i : TypeInfo) (du : TypeDesc) (ht : P.underlying t = some (.slice 5)) (hu : P.underlying u = some du) (hdu : du = .string ∨ ∃ e, du = .slice e)
    (hi : P.info? 5 = some i) (hz : i.zero = some (.int .u8 0)) (hsize : i.size = 1) (hby : i.bytes = 1)
    (v : Value) (xs : List UInt8) (hrow : Row w base v xs) (x : Value) (news : List UInt8) (hx : (Builtin.lenOf x).run P w = .ok news.length w)
    (hf : ∀ w' : World, w'.heap = w.heap → (Builtin.firstCells 1 news.length x).run P w' = .ok (news.map vb).toArray w')
    (hlen : xs.length + news.length ≤ 140737488355328) (hbase : base ≤ w.heap.size) :
    ∃ v' w', (Builtin.append_ #[t, u] ty #[v, x]).run P w = .ok v' w' ∧ Row w' base v' (xs ++ news) ∧ Keep v.ownBlock.toList w w' := by
  have hm : xs.length + news.length ≤ maxLen := by unfold maxLen; omega
  have grown : ∀ (old : Nat), old < xs.length + news.length →
      Row (w.drew.alloc (.cells ((xs.map vb).toArray ++ (news.map vb).toArray ++ Builtin.zeroCells (Value.int .u8 0).cells (grownCap w (xs.length + news.length) old 5 - (xs.length + news.length))) 5)) base
        (.slice (some ⟨w.heap.size, 0, none⟩) (xs.length + news.length) (grownCap w (xs.length + news.length) old 5)) (xs ++ news) ∧
      ∀ S, Keep S w (w.drew.alloc (.cells ((xs.map vb).toArray ++ (news.map vb).toArray ++ Builtin.zeroCells (Value.int .u8 0).cells (grownCap w (xs.length + news.length) old 5 - (xs.length + news.length))) 5)) := by
    intro old ho
    have hge := grownCap_ge w (xs.length + news.length) old 5
    have hcm : grownCap w (xs.length + news.length) old 5 ≤ maxLen := grownCap_le_maxLen w _ old _ hm
    refine ⟨.inr ⟨w.heap.size, _, _, (0, 0), by rw [List.length_append], hbase, heap_alloc_new w.drew _, .inl rfl, by simpa using hge, hcm, ?_, ?_⟩, fun S => (Keep.refl S w).drew.alloc _⟩
    · have hz1 : (Value.int IntKind.u8 0).cells.size = 1 := rfl
      simp only [Array.size_append, List.size_toArray, size_zeroCells, hz1, List.length_map]
      omega
    · simp [List.take_append, List.take_of_length_le]
  have hgrow : ∀ (a : Option Addr) (cap : Nat), v = .slice a xs.length cap → ¬ (xs.length + news.length ≤ cap) → cap ≤ maxLen →
      (∀ w' : World, w'.heap = w.heap → (Builtin.firstCells 1 xs.length v).run P w' = .ok (xs.map vb).toArray w') →
      (Builtin.append_ #[t, u] ty #[v, x]).run P w = .ok (.slice (some ⟨w.heap.size, 0, none⟩) (xs.length + news.length) (grownCap w (xs.length + news.length) cap 5))
        (w.drew.alloc (.cells ((xs.map vb).toArray ++ (news.map vb).toArray ++ Builtin.zeroCells (Value.int .u8 0).cells (grownCap w (xs.length + news.length) cap 5 - (xs.length + news.length))) 5)) := by
    rintro a cap rfl hn hcap hold
    have h63' : ¬ (9223372036854775807 < ((xs.length : Int) + (news.length : Int))) := by omega
    have h48' : ¬ (281474976710656 < Builtin.nextslicecap (xs.length + news.length) cap * i.bytes) := by
      have := growslice_fits (need := xs.length + news.length) (old := cap) (bytes := i.bytes) (by omega) (by rw [hby]; omega)
      omega
    have hf1 := hf w.drew rfl
    have hf2 := hold w.drew rfl
    rcases hdu with rfl | ⟨e', rfl⟩ <;> simp [Builtin.append_, run_underlying ht, run_underlying hu, sizeOf, typeInfo, zeroValue, hi, hz, hsize, hx, hn, h63', h48', Question.forced, hf1, hf2, newRow, grownCap] <;> (congr 2; apply Array.ext'; simp [List.append_assoc])
  rcases hrow with ⟨rfl, rfl⟩ | ⟨g, cap, cur, fr, rfl, hb, hg, hfr, hc, hcm, hcs, htk⟩
  · by_cases hn : news.length = 0
    · obtain rfl : news = [] := List.eq_nil_of_length_eq_zero hn
      refine ⟨.slice none 0 0, w, ?_, row_nil w base, Keep.refl _ w⟩
      have hf1 := hf w rfl
      simp at hx hf1
      rcases hdu with rfl | ⟨e', rfl⟩ <;> simp [Builtin.append_, run_underlying ht, run_underlying hu, sizeOf, typeInfo, hi, hsize, hx, hf1]
    · have hr := hgrow none 0 rfl (by simpa using hn) (by unfold maxLen; omega) (fun w' _ => by simp [Builtin.firstCells])
      have := grown 0 (by simp; omega)
      exact ⟨_, _, hr, this.1, this.2 _⟩
  · by_cases hroom : xs.length + news.length ≤ cap
    · have hst := run_storeCells_free P g xs.length 5 fr (news.map vb) 0 cur w hg hfr (by simp; omega) (vb_one news)
      simp only [Nat.add_zero] at hst
      have hf1 := hf w rfl
      have hr : (Builtin.append_ #[t, u] ty #[.slice (some ⟨g, 0, none⟩) xs.length cap, x]).run P w =
          .ok (.slice (some ⟨g, 0, none⟩) (xs.length + news.length) cap) (w.setRow g (cur.toList.take xs.length ++ news.map vb ++ cur.toList.drop (xs.length + (news.map vb).length)).toArray) := by
        rcases hdu with rfl | ⟨e', rfl⟩ <;> simp [Builtin.append_, run_underlying ht, run_underlying hu, sizeOf, typeInfo, hi, hsize, hx, hroom, hf1, Addr.add_lit, hst]
      refine ⟨_, _, hr, .inr ⟨g, cap, _, fr, by rw [List.length_append], hb, setRow_heap w g cur _ _ _ hg, ?_, by simpa using hroom, hcm, ?_, ?_⟩, ?_⟩
      · rcases hfr with h | h
        · exact .inl h
        · right; simp; omega
      · simp; omega
      · simp [htk, List.take_append, List.take_of_length_le]
      · exact ⟨rfl, rfl, rfl, by simp, fun k _ hk => setRow_other w g k _ (fun e => hk (by simp [Value.ownBlock, e]))⟩
    · have hold : ∀ w' : World, w'.heap = w.heap → (Builtin.firstCells 1 xs.length (.slice (some ⟨g, 0, none⟩) xs.length cap)).run P w' = .ok (xs.map vb).toArray w' := by
        intro w' hw'
        have := run_firstCells_some (P := P) w' 1 xs.length ⟨g, 0, none⟩ xs.length cap (xs.map vb) (by simp) (fun j u hj => by
          have hadd : (⟨g, 0, none⟩ : Addr).add j = ⟨g, j, none⟩ := by unfold Addr.add; split <;> simp_all
          rw [hadd, World.cell?_of_block (w := w) (by rw [hw'])]
          exact row_cells (w := w) (base := base) (v := .slice (some ⟨g, 0, none⟩) xs.length cap) (xs := xs) (.inr ⟨g, cap, cur, fr, rfl, hb, hg, hfr, hc, hcm, hcs, htk⟩) rfl j u hj)
        simpa using this
      have hr := hgrow (some ⟨g, 0, none⟩) cap rfl hroom hcm hold
      have := grown cap (by omega)
      exact ⟨_, _, hr, this.1, this.2 _⟩
theorem wpList_append_row {ops : Array Oper} {rest : List Oper} {o : Oper} {a : Act} {Q : Exit → Act → World → Prop} (hgd : o.guard = none) (s x : Operand) (t u : TypeId)
    (ho : o.op = .call { callee := .builtin .append, args := #[s, x], argTypes := #[t, u] })
    (base : Nat) (i : TypeInfo) (du : TypeDesc) (ht : P.underlying t = some (.slice 5)) (hu : P.underlying u = some du) (hdu : du = .string ∨ ∃ e, du = .slice e)
    (hi : P.info? 5 = some i) (hz : i.zero = some (.int .u8 0)) (hsize : i.size = 1) (hby : i.bytes = 1)
    (v : Value) (xs : List UInt8) (hs : a.eval s = v) (hrow : Row w base v xs) (xv : Value) (hxv : a.eval x = xv) (news : List UInt8) (hx : (Builtin.lenOf xv).run P w = .ok news.length w)
    (hf : ∀ w' : World, w'.heap = w.heap → (Builtin.firstCells 1 news.length xv).run P w' = .ok (news.map vb).toArray w')
    (hlen : xs.length + news.length ≤ 140737488355328) (hbase : base ≤ w.heap.size)
    (h : ∀ v' w', Row w' base v' (xs ++ news) → Keep v.ownBlock.toList w w' → wpList P ops Q rest (a.put o.dst v') w') : wpList P ops Q (o :: rest) a w := by
  refine wpList_plain hgd fun K hK => ?_
  obtain ⟨v', w', hr, h2, h3⟩ := run_append_row (P := P) w base t u o.type i du ht hu hdu hi hz hsize hby v xs hrow xv news hx hf hlen hbase
  unfold Oper.wp execOp
  simp only [ho, resolve, invoke, builtin, Sem.run_bind, Sem.run_pure, Result.andThen_ok, List.map_toArray, List.map_cons, List.map_nil, hs, hxv, hr]
  exact hK _ _ (h v' w' h2 h3)
theorem firsts_slice (news : List UInt8) (ad : Addr) (c : Nat) (hnews : ∀ j u, (news.map vb)[j]? = some u → w.cell? (ad.add j) = some u) :
    ∀ w' : World, w'.heap = w.heap → (Builtin.firstCells 1 news.length (.slice (some ad) news.length c)).run P w' = .ok (news.map vb).toArray w' := by
  intro w' hw'
  have := run_firstCells_some (P := P) w' 1 news.length ad news.length c (news.map vb) (by simp) (fun j u hj => by
    rw [World.cell?_of_block (w := w) (by rw [hw'])]; exact hnews j u hj)
  simpa using this
theorem firsts_string (s : ByteArray) : ∀ w' : World, w'.heap = w.heap → (Builtin.firstCells 1 s.data.toList.length (.string s)).run P w' = .ok (s.data.toList.map vb).toArray w' := by
  intro w' _
  have := Lib.run_firstCells_string (P := P) w' 1 s
  rw [show s.data.toList.length = s.size by simp]
  rw [this]; rfl
end
/-- One byte is appended: the walk lays it in a new block of one cell. -/
theorem append_byte {ops : Array Oper} {rest : List Oper} {o : Oper} {a : Act} {Q : Exit → Act → World → Prop} (w : World) (hgd : o.guard = none) (s x : Operand)
    (ho : o.op = .call { callee := .builtin .append, args := #[s, x], argTypes := #[97, 97] })
    (base : Nat) (v : Value) (xs : List UInt8) (hs : a.eval s = v) (hrow : Row w base v xs) (g : Nat) (c : UInt8) (hx : a.eval x = .slice (some ⟨g, 0, none⟩) 1 1) (hc : w.cell? ⟨g, 0, none⟩ = some (vb c))
    (hlen : xs.length + 1 ≤ 140737488355328) (hbase : base ≤ w.heap.size)
    (h : ∀ v' w', Row w' base v' (xs ++ [c]) → Keep v.ownBlock.toList w w' → wpList Tryz.prog ops Q rest (a.put o.dst v') w') : wpList Tryz.prog ops Q (o :: rest) a w := by
  obtain ⟨i0, hi, hz0, hz1, hz2⟩ := info_parts info_u8
  refine wpList_append_row w hgd s x _ _ ho base i0 _ Tryz.underlying97 Tryz.underlying97 (.inr ⟨_, rfl⟩) hi hz0 hz1 hz2 v xs hs hrow _ hx [c] rfl ?_ hlen hbase h
  exact firsts_slice w [c] ⟨g, 0, none⟩ 1 (fun j u hj => by
    cases j with
    | zero =>
      simp at hj; subst hj
      exact hc
    | succ j => simp at hj)
theorem append_string {ops : Array Oper} {rest : List Oper} {o : Oper} {a : Act} {Q : Exit → Act → World → Prop} (w : World) (hgd : o.guard = none) (s x : Operand)
    (ho : o.op = .call { callee := .builtin .append, args := #[s, x], argTypes := #[97, 9] })
    (base : Nat) (v : Value) (xs : List UInt8) (hs : a.eval s = v) (hrow : Row w base v xs) (b : ByteArray) (hx : a.eval x = .string b)
    (hlen : xs.length + b.size ≤ 140737488355328) (hbase : base ≤ w.heap.size)
    (h : ∀ v' w', Row w' base v' (xs ++ b.data.toList) → Keep v.ownBlock.toList w w' → wpList Tryz.prog ops Q rest (a.put o.dst v') w') : wpList Tryz.prog ops Q (o :: rest) a w := by
  obtain ⟨i0, hi, hz0, hz1, hz2⟩ := info_parts info_u8
  refine wpList_append_row w hgd s x _ _ ho base i0 _ Tryz.underlying97 Tryz.underlying9 (.inl rfl) hi hz0 hz1 hz2 v xs hs hrow _ hx b.data.toList ?_ (firsts_string w b) (by simpa using hlen) hbase h
  simp [Builtin.lenOf]
/-- A string is turned into bytes: a row of the call's own. -/
theorem run_bytes (s : ByteArray) (w : World) :
    (convert 9 97 (.string s)).run Tryz.prog w = .ok (.slice (some ⟨w.heap.size, 0, none⟩) s.size (grownCap w s.size 0 5)) (Lib.bytesWorld w 5 s) :=
  Lib.run_convert_string_bytes w 9 97 5 s Tryz.underlying9 Tryz.underlying97 Tryz.underlying5
theorem bytes_row (w : World) (s : ByteArray) (hs : s.size ≤ 140737488355328) : Row (Lib.bytesWorld w 5 s) w.heap.size (.slice (some ⟨w.heap.size, 0, none⟩) s.size (grownCap w s.size 0 5)) s.data.toList := by
  have hge := grownCap_ge w s.size 0 5
  refine .inr ⟨_, _, _, _, by simp, Nat.le_refl _, Lib.bytesWorld_at_new w 5 s, .inr (Nat.le_refl _), by simpa using hge, grownCap_le_maxLen w s.size 0 5 (by unfold maxLen; omega), ?_, ?_⟩
  · simp [Lib.bytesCells]; omega
  · simp [Lib.bytesCells]; intro a _; rfl
theorem bytes_keep (w : World) (s : ByteArray) : Keep [] w (Lib.bytesWorld w 5 s) :=
  ⟨rfl, rfl, rfl, by rw [Lib.bytesWorld_size]; omega, fun k hk _ => Lib.bytesWorld_at_old w _ s k hk⟩
theorem bytes_size (w : World) (s : ByteArray) : (Lib.bytesWorld w 5 s).heap.size = w.heap.size + 1 := Lib.bytesWorld_size w _ s
theorem row_byte {w : World} {base g n cap : Nat} {xs : List UInt8} (h : Row w base (.slice (some ⟨g, 0, none⟩) n cap) xs) : ∀ i (hi : i < xs.length), w.cell? ⟨g, i, none⟩ = some (vb xs[i]) :=
  fun i hi => row_cells h rfl i _ (by simp [hi])
/-- Bytes are turned into a string. -/
theorem run_string {w : World} {base : Nat} {v : Value} {xs : List UInt8} (h : Row w base v xs) : (convert 97 9 v).run Tryz.prog w = .ok (.string ⟨xs.toArray⟩) w := by
  have hr := h
  rcases h with ⟨rfl, rfl⟩ | ⟨g, cap, cur, fr, rfl, _⟩
  · rw [run_convert_bytes_string w 97 9 5 none 0 0 Tryz.underlying97 Tryz.underlying5 Tryz.underlying9]; rfl
  · exact run_convert_bytes_back w 97 9 5 ⟨g, 0, none⟩ cap xs Tryz.underlying97 Tryz.underlying5 Tryz.underlying9 (fun j hj => by
      have hadd : (⟨g, 0, none⟩ : Addr).add j = ⟨g, j, none⟩ := by unfold Addr.add; split <;> simp_all
      rw [hadd]; exact row_cells hr rfl j _ (by simp [hj, vb]))
theorem row_free {w : World} {base : Nat} {v : Value} {xs : List UInt8} (h : Row w base v xs) {g : Nat} (hg : v.ownBlock = some g) (i : Nat) (hi : i < xs.length) : w.frozen? ⟨g, i, none⟩ = false := by
  rcases h with ⟨rfl, _⟩ | ⟨g', cap, cur, fr, rfl, hb, hgg, hfr, hc, _, hcs, ht⟩
  · cases hg
  · obtain rfl : g' = g := by injection hg
    obtain ⟨lo, hi'⟩ := fr
    simp only [World.frozen?, hgg, Bool.and_eq_false_iff, decide_eq_false_iff_not]
    simp only at hfr
    omega
theorem row_set {w : World} {base g n cap : Nat} {xs : List UInt8} (h : Row w base (.slice (some ⟨g, 0, none⟩) n cap) xs) (i : Nat) (c : UInt8) :
    Row (w.setCell ⟨g, i, none⟩ (vb c)) base (.slice (some ⟨g, 0, none⟩) n cap) (xs.set i c) := by
  rcases h with ⟨h, _⟩ | ⟨g', cap', cur, fr, hv, hb, hgg, hfr, hc, hm, hcs, ht⟩
  · cases h
  · injection hv with e1 e2 e3; injection e1 with e1; injection e1 with e1
    subst e1 e2 e3
    refine .inr ⟨g, cap, cur.setIfInBounds i (vb c), fr, by simp, hb, ?_, by simpa using hfr, by simpa using hc, hm, by simpa using hcs, ?_⟩
    · rw [setCell_eq_setRow w g i cur _ fr _ hgg]; exact setRow_heap w g cur _ _ _ hgg
    · rw [Array.toList_setIfInBounds, List.length_set, List.take_set, ht, List.map_set]
end
section
open Go.RowKit
def strOf (l : List UInt8) : Value := .string ⟨l.toArray⟩
theorem toList_data (s : ByteArray) : s.toList = s.data.toList := ByteArray.toList_eq s
theorem str_of (a : ByteArray) : Value.string a = strOf a.data.toList := rfl
theorem size_mk (l : List UInt8) : (ByteArray.mk l.toArray).size = l.length := by simp [ByteArray.size]
theorem byte_string (W : World) (ci : Int) (c : UInt8) (h : ci = (c.toNat : Int)) :
    (convert 97 9 (.slice (some ⟨W.heap.size, 0, none⟩) 1 1)).run Tryz.prog (W.alloc (.cells #[.int .u8 ci] 5)) = .ok (.string ⟨#[c]⟩) (W.alloc (.cells #[.int .u8 ci] 5)) := by
  subst h
  exact run_string (base := W.heap.size) (xs := [c]) (.inr ⟨W.heap.size, 1, _, _, rfl, Nat.le_refl _, heap_alloc_new W _, .inl rfl, Nat.le_refl _, by decide, rfl, rfl⟩)
end
section
open Go.RowKit
theorem still_tail {P : Program} {id : Nat} {Q : Exit → Act → World → Prop} {a : Act} {w : World} {l : List Oper} (n : Nat) (hm : P.follows .mixedOrders = true) (hB : Region.lexTailB .any l.toArray n = true)
    (h : wpStill P l.toArray w.drew (fun a' => wpList P l.toArray Q (l.drop n) a' w.drew) (l.take n) a) : (Code.region id l.toArray true).wp P Q a w :=
  wp_region_still_tail n hm hB h
theorem gen_world {P : Program} {c : Code} {Q : Exit → Act → World → Prop} {a : Act} {W : World} (φ : World → Prop) (h : φ W) (g : ∀ w, φ w → Code.wp P c Q a w) : Code.wp P c Q a W := g W h
theorem below_quiet (w : World) (n : Nat) : Below w.heap.size w (w.drewN n) ∧ (w.drewN n).heap.size = w.heap.size := ⟨⟨rfl, rfl, rfl, Nat.le_refl _, fun _ _ => rfl⟩, rfl⟩
theorem quiet_lft {P : Program} {f : FuncId} {args : Array Value} {w : World} {n : Nat} {v : Value}
    (h : Calls P f args (w.drewN n) fun e w' => e = .returned v ∧ w.drewN n = w') : Calls P f args (w.drewN n) fun e w'' => e = .returned v ∧ ∃ m, w'' = w.drewN m :=
  h.mono fun _ _ ⟨he, hm⟩ => ⟨he, n, hm.symm⟩
end
section
open Go.RowKit
set_option maxHeartbeats 1000000 in
theorem pick_any (n many : Int) (w : World) (h1 : 1 ≤ many) (h2 : many ≤ 4611686018427387904) (h3 : -9223372036854775808 ≤ n) (h4 : n ≤ 9223372036854775807) :
    Calls Tryz.prog 14 #[.int .i64 n, .int .i64 many] w fun e w' => e = .returned (.int .i64 (n % many)) ∧ w = w' := by
  have hp := Int.emod_nonneg n (by omega : many ≠ 0)
  have hq := Int.emod_lt_of_pos n (by omega : 0 < many)
  have hr : (n.tmod many = n % many ∧ 0 ≤ n.tmod many) ∨ (n.tmod many + many = n % many ∧ n.tmod many < 0) := by
    have ht := Int.tmod_eq_emod (a := n) (b := many)
    split at ht
    · left; exact ⟨by omega, by omega⟩
    · right
      have : (many.natAbs : Int) = many := Int.natAbs_of_nonneg (by omega)
      exact ⟨by omega, by omega⟩
  rcases hr with ⟨e1, e2⟩ | ⟨e1, e2⟩
  · rw [← e1]
    rw [← e1] at hp hq
    clear e1
    go_enter Tryz.func14, Tryz.ntmps14
    go_wp2_with fail
    go_ret
    exact ⟨rfl, rfl⟩
  · rw [← e1]
    rw [← e1] at hp hq
    clear e1
    go_enter Tryz.func14, Tryz.ntmps14
    go_wp2_with fail
    go_ret
    exact ⟨rfl, rfl⟩
theorem pow_u8 : ∀ t : Nat, t ≤ 7 → ((1 : UInt8) <<< UInt8.ofNat t).toNat = 2 ^ t := by decide
theorem xor_bit (c : UInt8) (t : Nat) (ht : t ≤ 7) : bits .xor .u8 (c.toNat : Int) (2 ^ t % 256) = ((c ^^^ ((1 : UInt8) <<< UInt8.ofNat t)).toNat : Int) := by
  have h1 : (2 : Int) ^ t % 256 = ((2 ^ t : Nat) : Int) := by
    have : 2 ^ t ≤ 2 ^ 7 := Nat.pow_le_pow_right (by omega) ht
    have h : (2 : Int) ^ t = ((2 ^ t : Nat) : Int) := by simp
    rw [h]; generalize 2 ^ t = p at *; omega
  have h2 : 2 ^ t < 256 := by
    have : 2 ^ t ≤ 2 ^ 7 := Nat.pow_le_pow_right (by omega) ht
    omega
  rw [h1, u8_xor_nat _ _ c.toNat_lt h2, UInt8.toNat_xor, pow_u8 t ht]
/-- One bit of a list of bytes is inverted, counted from the first byte's highest. -/
def flipAt (l : List UInt8) (k : Nat) : List UInt8 := l.set (k / 8) (l.getD (k / 8) 0 ^^^ (1 <<< UInt8.ofNat (7 - k % 8)))
def flipOf (l : List UInt8) (n : Int) : List UInt8 := if l = [] then [] else flipAt l (n % (8 * l.length : Nat)).toNat
attribute [local go_sem] run_bytes bytes_size
set_option maxHeartbeats 2000000 in
set_option maxRecDepth 100000 in
theorem flip_any (s : ByteArray) (n : Int) (w : World) (hs : s.size ≤ 1000000000) (h3 : -9223372036854775808 ≤ n) (h4 : n ≤ 9223372036854775807) :
    Calls Tryz.prog 36 #[.string s, .int .i64 n] w fun e w' => e = .returned (strOf (flipOf s.data.toList n)) ∧ Below w.heap.size w w' := by
  by_cases h0 : s.data.toList = []
  · have hv : strOf (flipOf s.data.toList n) = .string s := by rw [flipOf, if_pos h0, str_of, h0]
    have HV := Lib.hid hv; clear hv
    have he : s.toList.isEmpty = true := by rw [toList_data, h0]; rfl
    clear h0
    go_enter Tryz.func36, Tryz.ntmps36
    go_wp2_with fail
    go_ret
    exact ⟨by rw [HV.out]; rfl, Below.refl _ _⟩
  · have he : s.toList.isEmpty = false := by rw [toList_data]; simpa using h0
    have hpos : 1 ≤ s.size := by
      rcases Nat.eq_zero_or_pos s.size with h | h
      · exact absurd (List.eq_nil_of_length_eq_zero (by simpa using h)) h0
      · exact h
    have H0 := Lib.hid h0; clear h0
    go_enter Tryz.func36, Tryz.ntmps36
    go_wp2_with fail
    refine (pick_any n _ _ (by omega) (by omega) h3 h4).mono ?_
    obtain ⟨k, hk⟩ : ∃ k, k = (n % (8 * s.size : Nat)).toNat := ⟨_, rfl⟩
    have hp := Int.emod_nonneg n (by omega : ((8 * s.size : Nat) : Int) ≠ 0)
    have hq := Int.emod_lt_of_pos n (by omega : (0 : Int) < ((8 * s.size : Nat) : Int))
    have hk1 : n % (8 * (s.size : Int)) = k := by
      rw [hk, show (8 * (s.size : Int)) = ((8 * s.size : Nat) : Int) by omega]; exact (Int.toNat_of_nonneg hp).symm
    have hk2 : k < 8 * s.size := by omega
    rw [hk1]
    clear hp hq hk1
    have HK := Lib.hid hk; clear hk
    rintro e w1 ⟨rfl, rfl⟩
    go_wp2_with fail
    obtain ⟨j, hj⟩ : ∃ j, j = k / 8 := ⟨_, rfl⟩
    obtain ⟨r, hr⟩ : ∃ r, r = k % 8 := ⟨_, rfl⟩
    obtain ⟨t, ht⟩ : ∃ t, t = 7 - r := ⟨_, rfl⟩
    have hj2 : j < s.size := by omega
    have ht2 : t ≤ 7 := by omega
    have q1 : IntKind.i64.wrap ((k : Int) / 8) = (j : Int) := by rw [IntWalk.i64_in _ (by omega)]; omega
    have q2 : ((k : Int).tmod 8) = (r : Int) := by
      rw [Int.tmod_eq_emod_of_nonneg (by omega)]; omega
    have q3 : IntKind.i64.wrap (7 - (r : Int)) = (t : Int) := by rw [IntWalk.i64_in _ (by omega)]; omega
    obtain ⟨c, hc⟩ : ∃ c, c = s.data.toList.getD j 0 := ⟨_, rfl⟩
    have hjl : j < s.data.toList.length := by simpa using hj2
    have HJ := Lib.hid hj; clear hj
    have HR := Lib.hid hr; clear hr
    have HT := Lib.hid ht; clear ht
    refine gen_world (fun w' => Below w.heap.size w w' ∧ w.heap.size + 1 ≤ w'.heap.size ∧ Row w' w.heap.size (.slice (some ⟨w.heap.size, 0, none⟩) s.size (grownCap w s.size 0 5)) s.data.toList)
      ⟨(bytes_keep w s).toBelow, by rw [bytes_size]; exact Nat.le_refl _, bytes_row w s (by omega)⟩ ?_
    generalize grownCap w s.size 0 5 = cap
    rintro w1 ⟨hL1, hs1, hR1⟩
    have c0 : w1.cell? ⟨w.heap.size, j, none⟩ = some (.int .u8 (c.toNat : Int)) := by
      rw [row_byte hR1 j hjl, hc, List.getD_eq_getElem?_getD, List.getElem?_eq_getElem hjl]; rfl
    have f0 : w1.frozen? ⟨w.heap.size, j, none⟩ = false := row_free hR1 rfl _ hjl
    obtain ⟨d, hd⟩ : ∃ d, d = c ^^^ ((1 : UInt8) <<< UInt8.ofNat t) := ⟨_, rfl⟩
    have q4 : bits .xor .u8 (c.toNat : Int) (2 ^ t % 256) = (d.toNat : Int) := by rw [hd]; exact xor_bit c t ht2
    have q5 : bits .xor .u8 (c.toNat : Int) (IntKind.u8.wrap (2 ^ t)) = (d.toNat : Int) := by rw [IntKind.wrap_u8']; exact q4
    have hR2 := row_set hR1 j d
    have hcv := run_string (w := (w1.setCell ⟨w.heap.size, j, none⟩ (.int .u8 (d.toNat : Int))).drew) hR2
    have hfin : flipOf s.data.toList n = s.data.toList.set j d := by
      rw [flipOf, if_neg H0.out, flipAt]
      rw [show s.data.toList.length = s.size by simp, ← HK.out, ← HJ.out, ← HR.out, ← HT.out, ← hc, ← hd]
    have HF := Lib.hid hfin
    clear hfin hd hR2
    have hj3 : (j : Int) < (s.size : Int) := by omega
    have hj4 : (0 : Int) ≤ (j : Int) := by omega
    have ht4 : (0 : Int) ≤ (t : Int) := by omega
    have ht5 : (t : Int) ≤ 7 := by omega
    have HR1 := Lib.hid hR1
    have HL1 := Lib.hid hL1
    have HC := Lib.hid hc
    clear hR1 hL1 hc hjl
    refine still_tail 14 (by kernel_rfl) (by kernel_rfl) ?_
    simp only [List.take_succ_cons, List.take_zero, List.drop_succ_cons, List.drop_zero]
    repeat still_step
    refine wpStill_nil ?_
    go_wp2_with fail
    go_ret
    exact ⟨by rw [HF.out, strOf]; rfl, (HL1.out.setCell (Nat.le_refl _) _).drew⟩
end
section
/-- A step, done so many times. -/
def iter {α : Type} (f : α → α) : Nat → α → α
  | 0, x => x
  | k + 1, x => iter f k (f x)
theorem iter_add {α : Type} (f : α → α) : ∀ (a b : Nat) (x : α), iter f (a + b) x = iter f b (iter f a x)
  | 0, b, x => by rw [Nat.zero_add]; rfl
  | a + 1, b, x => by rw [Nat.add_right_comm, iter, iter_add f a b, iter]
theorem iter_succ {α : Type} (f : α → α) (a : Nat) (x : α) : iter f (a + 1) x = f (iter f a x) := by rw [iter_add]; rfl
section
variable {n : Nat} {sh : BitVec n → BitVec n} {e : Nat → BitVec n}
structure Lin (sh : BitVec n → BitVec n) : Prop where
  xor : ∀ x y, sh (x ^^^ y) = sh x ^^^ sh y
theorem Lin.zero (h : Lin sh) : sh 0#n = 0#n := by
  have := h.xor 0#n 0#n
  rw [BitVec.xor_self] at this
  rw [this, BitVec.xor_self]
theorem Lin.iter (h : Lin sh) : ∀ k, Lin (iter sh k)
  | 0 => ⟨fun _ _ => rfl⟩
  | k + 1 => ⟨fun x y => by show Proofs.YtgopighmifpefaaGreatDoor.iter sh k (sh (x ^^^ y)) = _; rw [h.xor, (Lin.iter h k).xor]; rfl⟩
def bitOf (e : BitVec n) (b : Bool) : BitVec n := if b then e else 0#n
def emb (e : Nat → BitVec n) : Nat → List Bool → BitVec n
  | _, [] => 0#n
  | i, b :: r => bitOf (e i) b ^^^ emb e (i + 1) r
def feed (sh : BitVec n → BitVec n) (e0 : BitVec n) (r : BitVec n) (b : Bool) : BitVec n := sh (r ^^^ bitOf e0 b)
def run (sh : BitVec n → BitVec n) (e0 : BitVec n) (r : BitVec n) (l : List Bool) : BitVec n := l.foldl (feed sh e0) r
theorem run_append (e0 r : BitVec n) (a b : List Bool) : run sh e0 r (a ++ b) = run sh e0 (run sh e0 r a) b := by simp [run]
theorem sh_emb (h : Lin sh) (m : Nat) (he : ∀ i, i + 1 < m → sh (e (i + 1)) = e i) : ∀ (l : List Bool) (i : Nat), i + 1 + l.length ≤ m → sh (emb e (i + 1) l) = emb e i l
  | [], i, _ => h.zero
  | b :: r, i, hl => by
    rw [emb, emb, h.xor, sh_emb h m he r (i + 1) (by simp at hl; omega)]
    congr 1
    cases b
    · exact h.zero
    · exact he i (by simp at hl; omega)
theorem run_emb (h : Lin sh) (m : Nat) (he : ∀ i, i + 1 < m → sh (e (i + 1)) = e i) : ∀ (l : List Bool) (r : BitVec n), l.length ≤ m → run sh (e 0) r l = iter sh l.length (r ^^^ emb e 0 l)
  | [], r, _ => by show r = r ^^^ 0#n; rw [BitVec.xor_zero]
  | b :: l, r, hl => by
    have h1 : run sh (e 0) r (b :: l) = run sh (e 0) (feed sh (e 0) r b) l := rfl
    rw [h1, run_emb h m he l _ (by simp at hl; omega)]
    show _ = iter sh (l.length + 1) _
    rw [iter, emb, feed, h.xor, h.xor, h.xor, sh_emb h m he l 0 (by simp at hl; omega), BitVec.xor_assoc]
end
/-! ### The two registers -/
def sh16 (r : BitVec 16) : BitVec 16 := r <<< 1 ^^^ (r >>> 15) * 4129#16
def e16 (i : Nat) : BitVec 16 := 1#16 <<< (15 - i)
theorem sh16_eq (r : BitVec 16) : sh16 r = r <<< 1 ^^^ (if r.getLsbD 15 then 4129#16 else 0#16) := by
  unfold sh16; congr 1
  have h : r >>> 15 = if r.getLsbD 15 then 1#16 else 0#16 := by
    apply BitVec.eq_of_getLsbD_eq; intro i hi
    rw [BitVec.getLsbD_ushiftRight]
    by_cases h0 : i = 0
    · subst h0; split <;> simp_all
    · rw [BitVec.getLsbD_of_ge _ _ (by omega)]; split <;> simp [h0]
  rw [h]; split <;> rfl
theorem if_xor {n : Nat} (k : BitVec n) (a b : Bool) : (if (a ^^ b) = true then k else 0#n) = (if a = true then k else 0#n) ^^^ (if b = true then k else 0#n) := by
  cases a <;> cases b <;> simp
theorem xor4 {n : Nat} (a b c d : BitVec n) : (a ^^^ b) ^^^ (c ^^^ d) = (a ^^^ c) ^^^ (b ^^^ d) := by
  rw [BitVec.xor_assoc, BitVec.xor_assoc]; congr 1; rw [← BitVec.xor_assoc, ← BitVec.xor_assoc, BitVec.xor_comm b]
theorem lin16 : Lin sh16 := ⟨fun x y => by
  rw [sh16_eq, sh16_eq, sh16_eq, BitVec.getLsbD_xor, if_xor, BitVec.shiftLeft_xor_distrib]; exact xor4 _ _ _ _⟩
theorem he16 : ∀ i, i + 1 < 16 → sh16 (e16 (i + 1)) = e16 i := by
  have : ∀ i, i < 15 → sh16 (e16 (i + 1)) = e16 i := by decide
  exact fun i h => this i (by omega)
end
section
open Go.RowKit
/-- The remainder of x times a remainder. -/
def shN (r : Nat) : Nat := if 128 ≤ 2 * r % 256 then (2 * r % 256) ^^^ 197 else 2 * r % 256
theorem sh_and : ∀ r : Nat, r < 256 → (bits .and .u8 ((r : Int) * 2 % 256) 128 != 0) = decide (128 ≤ 2 * r % 256) := by decide +kernel
theorem sh_xor : ∀ r : Nat, r < 256 → bits .xor .u8 ((r : Int) * 2 % 256) 197 = (((2 * r % 256) ^^^ 197 : Nat) : Int) := by decide +kernel
set_option maxHeartbeats 4000000 in
set_option maxRecDepth 100000 in
theorem shifted_any (r : Nat) (w : World) (hr : r < 256) : Calls Tryz.prog 102 #[.int .u8 (r : Nat)] w fun e w' => e = .returned (.int .u8 (shN r : Nat)) ∧ w = w' := by
  have h1 := sh_and r hr
  have h2 := sh_xor r hr
  have h3 : (r : Int) * 2 % 256 = ((2 * r % 256 : Nat) : Int) := by omega
  have H2 := Lib.hid h2; have H3 := Lib.hid h3
  clear h2 h3
  unfold shN
  by_cases hc : 128 ≤ 2 * r % 256
  · rw [if_pos hc]
    have k1 : (bits .and .u8 ((r : Int) * 2 % 256) 128 != 0) = true := by rw [h1]; simpa using hc
    clear h1 hc
    go_enter Tryz.func102, Tryz.ntmps102
    go_wp2_with fail
    go_ret
    exact ⟨by rw [H2.out]; rfl, rfl⟩
  · rw [if_neg hc]
    have k1 : (bits .and .u8 ((r : Int) * 2 % 256) 128 != 0) = false := by rw [h1]; simpa using hc
    clear h1 hc
    go_enter Tryz.func102, Tryz.ntmps102
    go_wp2_with fail
    go_ret
    exact ⟨by rw [H3.out]; rfl, rfl⟩
/-- The remainders of x^7 times the polynomials of degree 3 or less. -/
def halvesL : List Nat := [0, 69, 79, 10, 91, 30, 20, 81, 115, 54, 60, 121, 40, 109, 103, 34]
/-- The tables of the program, as they lie in memory. -/
structure Gl (w : World) : Prop where
  s0 : w.cell? ⟨0, 0, none⟩ = some (.int .u8 235)
  s1 : w.cell? ⟨0, 1, none⟩ = some (.int .u8 144)
  hv : ∀ k, k < 16 → w.cell? ⟨1, k, none⟩ = some (.int .u8 (halvesL.getD k 0 : Nat))
  lt : 1 < w.heap.size
theorem Gl.below {w w' : World} {B : Nat} (h : Gl w) (k : Below B w w') (hB : w.heap.size ≤ B) : Gl w' := by
  have hl := h.lt
  exact ⟨(k.cell (p := ⟨0, 0, none⟩) (by show 0 < B; omega)).trans h.s0, (k.cell (p := ⟨0, 1, none⟩) (by show 0 < B; omega)).trans h.s1, fun i hi => (k.cell (p := ⟨1, i, none⟩) (by show 1 < B; omega)).trans (h.hv i hi), Nat.lt_of_lt_of_le hl k.size⟩
theorem Gl.keep {w w' : World} {S : List Nat} (h : Gl w) (k : Keep S w w') (hS : ∀ i ∈ S, 1 < i) : Gl w' := by
  have hl := h.lt
  have h0 : 0 ∉ S := fun hm => by have := hS 0 hm; omega
  have h1 : 1 ∉ S := fun hm => by have := hS 1 hm; omega
  exact ⟨(k.cell (p := ⟨0, 0, none⟩) (by show 0 < w.heap.size; omega) h0).trans h.s0, (k.cell (p := ⟨0, 1, none⟩) (by show 0 < w.heap.size; omega) h0).trans h.s1, fun i hi => (k.cell (p := ⟨1, i, none⟩) hl h1).trans (h.hv i hi), Nat.lt_of_lt_of_le hl k.size⟩
theorem Gl.drew {w : World} (h : Gl w) : Gl w.drew := ⟨h.s0, h.s1, h.hv, h.lt⟩
/-- Half a byte more. -/
def halfN (r h : Nat) : Nat := (r * 16 % 128) ^^^ halvesL.getD ((r / 8) ^^^ h) 0
def byteN (r : Nat) (c : UInt8) : Nat := halfN (halfN r (c.toNat / 16)) (c.toNat % 16)
def remL (l : List UInt8) : Nat := l.foldl byteN 0
theorem half_lt : ∀ r : Nat, r < 128 → ∀ h : Nat, h < 16 → halfN r h < 128 ∧ (r / 8) ^^^ h < 16 := by decide +kernel
theorem byteN_lt (r : Nat) (hr : r < 128) (c : UInt8) : byteN r c < 128 := by
  have hc := c.toNat_lt
  exact (half_lt _ (half_lt r hr _ (by omega)).1 _ (by omega)).1
theorem remL_snoc (l : List UInt8) (c : UInt8) : remL (l ++ [c]) = byteN (remL l) c := by simp [remL]
theorem remL_lt (l : List UInt8) : remL l < 128 := by
  suffices h : ∀ r, r < 128 → l.foldl byteN r < 128 from h 0 (by decide)
  induction l with
  | nil => exact fun r hr => hr
  | cons c l ih => exact fun r hr => ih _ (byteN_lt r hr c)
end
section
def bitsH (c : UInt8) : List Bool := (List.range 8).map fun k => c.toNat.testBit (7 - k)
theorem bitsH_length (c : UInt8) : (bitsH c).length = 8 := by simp [bitsH]
def allH (l : List UInt8) : List Bool := l.flatMap bitsH
theorem allH_append (a b : List UInt8) : allH (a ++ b) = allH a ++ allH b := by simp [allH]
def next16 (r : BitVec 16) (l : List UInt8) : BitVec 16 := run sh16 (e16 0) r (allH l)
def sum16 (l : List UInt8) : BitVec 16 := next16 0xffff#16 l
def tab16 (i : Nat) : BitVec 16 := iter sh16 8 (BitVec.ofNat 16 i <<< 8)
def loB {n : Nat} (x : BitVec n) : UInt8 := UInt8.ofNat (x.toNat % 256)
theorem embH (c : UInt8) : emb e16 0 (bitsH c) = BitVec.ofNat 16 c.toNat <<< 8 := by
  have h : ∀ m, m < 256 → emb e16 0 ((List.range 8).map fun k => m.testBit (7 - k)) = BitVec.ofNat 16 m <<< 8 := by decide +kernel
  exact h c.toNat c.toNat_lt
theorem low16 : ∀ m, m < 256 → iter sh16 8 (BitVec.ofNat 16 m) = BitVec.ofNat 16 m <<< 8 := by decide +kernel
theorem split_lo {n : Nat} (x : BitVec n) : x = (x >>> 8) <<< 8 ^^^ BitVec.ofNat n (x.toNat % 256) := by
  apply BitVec.eq_of_getLsbD_eq; intro i hi
  rw [BitVec.getLsbD_xor, BitVec.getLsbD_shiftLeft, BitVec.getLsbD_ushiftRight, BitVec.getLsbD_ofNat, show 256 = 2 ^ 8 from rfl, Nat.testBit_mod_two_pow]
  by_cases h : i < 8
  · simp [h, hi, BitVec.getLsbD]
  · simp [h, hi, show 8 + (i - 8) = i by omega]
theorem shl8_lo (x : BitVec 16) : BitVec.ofNat 16 (x.toNat % 256) <<< 8 = x <<< 8 := by
  apply BitVec.eq_of_getLsbD_eq; intro i hi
  rw [BitVec.getLsbD_shiftLeft, BitVec.getLsbD_shiftLeft, BitVec.getLsbD_ofNat, show 256 = 2 ^ 8 from rfl, Nat.testBit_mod_two_pow]
  by_cases h : i < 8
  · simp [h]
  · simp [h, hi, show i - 8 < 8 by omega, show i - 8 < 16 by omega, BitVec.getLsbD]
theorem iter8_16 (x : BitVec 16) : iter sh16 8 x = x <<< 8 ^^^ iter sh16 8 ((x >>> 8) <<< 8) := by
  conv => lhs; rw [split_lo x]
  rw [(lin16.iter 8).xor, low16 _ (Nat.mod_lt _ (by omega)), shl8_lo, BitVec.xor_comm]
theorem ofNat_xor8 {n : Nat} (a b : UInt8) : BitVec.ofNat n (a ^^^ b).toNat = BitVec.ofNat n a.toNat ^^^ BitVec.ofNat n b.toNat := by
  rw [UInt8.toNat_xor]
  apply BitVec.eq_of_getLsbD_eq; intro i hi
  simp [BitVec.getLsbD_ofNat, Nat.testBit_xor, hi]
theorem loB_toNat {n : Nat} (x : BitVec n) : (loB x).toNat = x.toNat % 256 := by simp [loB]
theorem byte16 (r : BitVec 16) (c : UInt8) : run sh16 (e16 0) r (bitsH c) = r <<< 8 ^^^ tab16 (loB (r >>> 8) ^^^ c).toNat := by
  rw [run_emb lin16 16 he16 _ r (by rw [bitsH_length]; omega), bitsH_length, embH, iter8_16, tab16]
  congr 1
  · rw [BitVec.shiftLeft_xor_distrib, ← BitVec.shiftLeft_add, show (BitVec.ofNat 16 c.toNat) <<< (8 + 8) = 0#16 by
      apply BitVec.eq_of_getLsbD_eq; intro i hi; rw [BitVec.getLsbD_shiftLeft]; simp [hi]]
    rw [BitVec.xor_zero]
  · congr 1
    rw [ofNat_xor8, loB_toNat, BitVec.ushiftRight_xor_distrib, BitVec.shiftLeft_xor_distrib, BitVec.shiftLeft_xor_distrib]
    congr 1
    · congr 1
      apply BitVec.eq_of_toNat_eq
      have := (r >>> 8).isLt
      have h8 : (r >>> 8).toNat < 256 := by rw [BitVec.toNat_ushiftRight, Nat.shiftRight_eq_div_pow]; have := r.isLt; omega
      rw [BitVec.toNat_ofNat, Nat.mod_eq_of_lt h8, Nat.mod_eq_of_lt (by omega)]
    · apply BitVec.eq_of_getLsbD_eq; intro i hi
      rw [BitVec.getLsbD_shiftLeft, BitVec.getLsbD_ushiftRight, BitVec.getLsbD_shiftLeft, BitVec.getLsbD_shiftLeft]
      by_cases h : i < 8
      · simp [h]
      · simp [h, hi, show 8 + (i - 8) = i by omega]
theorem next16_nil (r : BitVec 16) : next16 r [] = r := rfl
theorem next16_cons (r : BitVec 16) (c : UInt8) (l : List UInt8) : next16 r (c :: l) = next16 (r <<< 8 ^^^ tab16 (loB (r >>> 8) ^^^ c).toNat) l := by
  rw [next16, allH, List.flatMap_cons, run_append, byte16]; rfl
theorem next16_append (r : BitVec 16) (a b : List UInt8) : next16 r (a ++ b) = next16 (next16 r a) b := by
  rw [next16, allH_append, run_append]; rfl
theorem next16_snoc (r : BitVec 16) (l : List UInt8) (c : UInt8) : next16 r (l ++ [c]) = (next16 r l) <<< 8 ^^^ tab16 (loB ((next16 r l) >>> 8) ^^^ c).toNat := by
  rw [next16_append, next16_cons, next16_nil]
/-! ### Steps as matrices -/
section
variable {n : Nat}
end
end
section
open Go.RowKit
def v16 (x : BitVec 16) : Value := .int .u16 (w16 x)
section
variable {P : Program} {ops : Array Oper} {rest : List Oper} {o : Oper} {a : Act} {w : World} {Q : Exit → Act → World → Prop}
/-- A variable of an array type is made: a block of zeros. -/
theorem wpList_alloc_zero (hgd : o.guard = none) (ty : TypeId) (ho : o.op = .alloc ty) (z : List Value) (hz : ∀ w : World, (Instr.alloc ty true (.tuple #[])).run P w = .ok (.pointer (some ⟨w.heap.size, 0, none⟩)) (w.alloc (.cells z.toArray ty)))
    (h : wpList P ops Q rest (a.put o.dst (.pointer (some ⟨w.heap.size, 0, none⟩))) (w.alloc (.cells z.toArray ty))) : wpList P ops Q (o :: rest) a w := by
  refine wpList_plain hgd fun K hK => ?_
  unfold Oper.wp execOp
  simp only [ho, Sem.run_bind, Sem.run_pure, Result.andThen_ok, hz]
  exact hK _ _ h
/-- A whole array is stored into a block of its size. -/
theorem wpList_store_whole (hgd : o.guard = none) (ty : TypeId) (x y : Operand) (ho : o.op = .store ty x y) (g : Nat) (hx : a.eval x = .pointer (some ⟨g, 0, none⟩)) (cs : List Value) (hy : a.eval y = .agg cs.toArray)
    (t : TypeId) (old : List Value) (hb : Blk w g old t) (hi : (P.info? ty).map (·.size) = some cs.length) (hol : old.length = cs.length) (h1 : ∀ u ∈ cs, u.oneCell' = true)
    (h : ∀ w', Keep [g] w w' → Blk w' g cs t → wpList P ops Q rest (a.put o.dst undef) w') : wpList P ops Q (o :: rest) a w := by
  refine wpList_plain hgd fun K hK => ?_
  have hr := run_storeVar_row (P := P) w g t ty old.toArray cs.toArray hb (by simpa using hi) (by simpa using hol) (by simpa [Array.all_eq_true_iff_forall_mem] using h1)
  unfold Oper.wp execOp
  simp only [ho, Sem.run_bind, Sem.run_pure, Result.andThen_ok, hx, hy, Instr.storeAt, Instr.sureAddr, hr]
  exact hK _ _ (h _ ⟨rfl, rfl, rfl, by simp, fun k _ hk => setRow_other w g k _ (by simpa using hk)⟩ (setRow_heap w g _ _ _ _ hb))
theorem wpList_load_whole (hgd : o.guard = none) (ty : TypeId) (x : Operand) (ho : o.op = .load ty x) (g : Nat) (hx : a.eval x = .pointer (some ⟨g, 0, none⟩)) (cs : List Value)
    (t : TypeId) (hb : Blk w g cs t) (n : Nat) (e : TypeId) (hu : P.underlying ty = some (.array n e)) (hi : (P.info? ty).map (·.size) = some cs.length)
    (h : wpList P ops Q rest (a.put o.dst (.agg cs.toArray)) w) : wpList P ops Q (o :: rest) a w :=
  wpList_load_row hgd ty x ho g hx t cs.toArray (0, 0) _ hb hu rfl (by simpa using hi) h
end
def row16 (k : Nat) : List Value := (List.range 256).map fun i => v16 (if i < k then tab16 i else 0#16)
theorem row16_set (k : Nat) (h : k < 256) : (row16 k).set k (v16 (tab16 k)) = row16 (k + 1) := by
  apply List.ext_getElem
  · simp [row16]
  · intro i h1 h2
    simp only [row16, List.getElem_set, List.getElem_map, List.getElem_range]
    by_cases e : k = i
    · subst e; simp
    · rw [if_neg e]; congr 1; by_cases h3 : i < k
      · rw [if_pos h3, if_pos (by omega)]
      · rw [if_neg h3, if_neg (by omega)]
theorem row16_length (k : Nat) : (row16 k).length = 256 := by simp [row16]
theorem row16_one (k : Nat) : ∀ u ∈ row16 k, u.oneCell' = true := by
  intro u hu; obtain ⟨i, _, rfl⟩ := List.mem_map.1 hu; rfl
theorem alloc16 : ∀ w : World, (Instr.alloc 183 true (.tuple #[])).run Tryz.prog w = .ok (.pointer (some ⟨w.heap.size, 0, none⟩)) (w.alloc (.cells (row16 0).toArray 183)) := fun _ => by kernel_rfl
theorem mul4129 (x : BitVec 16) : IntKind.u16.wrap (w16 x * 4129) = w16 (x * 4129#16) := w16_mul_lit x 4129
theorem wrap16_nat (k : Nat) (h : k < 65536) : IntKind.u16.wrap (k : Int) = w16 (BitVec.ofNat 16 k) := by
  rw [w16_ofNat, IntKind.wrap_u16]; omega
attribute [local go_sem] mul4129
set_option maxHeartbeats 2000000 in
set_option maxRecDepth 100000 in
theorem bytes16_any (w : World) : Calls Tryz.prog 103 #[] w fun e w' => e = .returned (.agg (row16 256).toArray) ∧ Below w.heap.size w w' := by
  go_enter Tryz.func103, Tryz.ntmps103
  go_wp2_with (refine wpList_alloc_zero rfl _ rfl (row16 0) alloc16 ?_)
  refine gen_world (fun w' => Below w.heap.size w w' ∧ Blk w' w.heap.size (row16 0) 183 ∧ Blk w' (w.heap.size + 1) (row16 0) 183)
    ⟨((Below.refl _ _).alloc (Nat.le_refl _) _).alloc (by simp) _, (Blk.new w (row16 0) _).alloc _, Blk.new_at _ (row16 0) _ _ (by simp)⟩ ?_
  rintro w1 ⟨hL1, hA1, hB1⟩
  have HL1 := Lib.hid hL1; clear hL1
  have HA1 := Lib.hid hA1; clear hA1
  have HB1 := Lib.hid hB1; clear hB1
  go_loopw [5] (fun i wr => ∃ k : Nat, k ≤ 256 ∧ i = .int .i64 k ∧ Below w.heap.size w wr ∧ Blk wr w.heap.size (row16 0) 183 ∧ Blk wr (w.heap.size + 1) (row16 k) 183) (fun i _ => (256 - intOf i).toNat)
  case atStart => exact ⟨0, Nat.zero_le _, rfl, HL1.out, HA1.out, HB1.out⟩
  case round =>
    obtain ⟨k, hk, rfl, hL, hA, hB⟩ := hrel
    have HL := Lib.hid hL; clear hL
    have HA := Lib.hid hA; clear hA
    by_cases hlt : k < 256
    · have hw := wrap16_nat k (by omega)
      have c0 : wr.cell? ⟨w.heap.size + 1, k, none⟩ = some (v16 0#16) := by rw [hB.cell k]; simp [row16, hlt]
      have f0 : wr.frozen? ⟨w.heap.size + 1, k, none⟩ = false := hB.free k
      have HB := Lib.hid hB; clear hB
      go_wp2_with fail
      go_loop [3, 11] (fun r j => ∃ m : Nat, m ≤ 8 ∧ j = .int .i64 m ∧ r = .int .u16 (w16 (iter sh16 m (BitVec.ofNat 16 k <<< 8)))) (fun _ j => (8 - intOf j).toNat)
      case atStart => exact ⟨0, by omega, rfl, rfl⟩
      case round =>
        obtain ⟨m, hm, rfl, rfl⟩ := hrel
        by_cases hm8 : m < 8
        · go_wp2_with fail
          go_round
          case rel => exact ⟨m + 1, by omega, by go_num, by rw [iter_succ]; rfl⟩
          case measure => simp [intOf]; omega
        · obtain rfl : m = 8 := by omega
          go_wp2_with fail
          go_roundw
          case rel => exact ⟨k + 1, by omega, by go_num, HL.out.setCell (Nat.le_succ _) _, HA.out.set_far (by simp) _, by rw [← row16_set k hlt]; exact HB.out.set k _⟩
          case measure => simp [intOf]; omega
    · obtain rfl : k = 256 := by omega
      have HB := Lib.hid hB; clear hB
      go_wp2_with (first | (refine wpList_load_whole rfl _ _ rfl (w.heap.size + 1) rfl (row16 256) _ HB.out 256 120 Tryz.underlying183 (by kernel_rfl) ?_) | (refine wpList_store_whole rfl _ _ _ rfl w.heap.size rfl (row16 256) rfl _ (row16 0) HA.out (by kernel_rfl) (by simp [row16_length]) (row16_one 256) ?_; intro w2 hK2 hB2))
      go_wp2_with fail
      refine bodyPost_ret (results_cell_row (P := Tryz.prog) rfl _ _ w.heap.size _ (row16 256).toArray (0, 0) _ rfl hB2 Tryz.underlying183 rfl (by kernel_rfl)) rfl ⟨rfl, ?_⟩
      exact HL.out.trans (hK2.toBelowAt HL.out.size (by simp))
end
end Go.Proofs.YtgopighmifpefaaGreatDoor
