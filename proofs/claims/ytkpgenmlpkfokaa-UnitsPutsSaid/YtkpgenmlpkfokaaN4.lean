/- What is proved here: units, and the walk of their comparison. -/
import Derived.Test.YtkpgenmlpkfokaaN3
set_option linter.unusedVariables false
set_option linter.unusedSimpArgs false
namespace Go.Proofs.Ytkpgenmlpkfokaa
open Go.RowKit
/-- A unit. -/
structure Un where
  kind : Int
  num : Int
  name : ByteArray
  size : Int
  sum : Int
  off : Int
  data : ByteArray
  why : Int
  ans : Int
  meta_ : Bool
  gaps : List Gp
def Un.cells (u : Un) (gv : Value) : List Value := [.int .i64 u.kind, .int .i64 u.num, .string u.name, .int .i64 u.size, .int .u32 u.sum, .int .i64 u.off, .string u.data, .int .i64 u.why, .int .i64 u.ans, .bool u.meta_, gv]
def Un.val (u : Un) (gv : Value) : Value := .agg #[.int .i64 u.kind, .int .i64 u.num, .string u.name, .int .i64 u.size, .int .u32 u.sum, .int .i64 u.off, .string u.data, .int .i64 u.why, .int .i64 u.ans, .bool u.meta_, gv]
def Un.zero : Un := ⟨0, 0, ⟨#[]⟩, 0, 0, 0, ⟨#[]⟩, 0, 0, false, []⟩
def sameU (a b : Un) : Bool := decide (a.gaps = b.gaps) && (a.kind == b.kind) && (a.num == b.num) && (a.name.toList == b.name.toList) && (a.size == b.size) && (a.sum == b.sum) && (a.off == b.off) && (a.data.toList == b.data.toList) && (a.why == b.why) && (a.ans == b.ans) && (a.meta_ == b.meta_)
theorem bytes_ext {a b : ByteArray} (h : a.toList = b.toList) : a = b := by
  rw [ByteArray.toList_eq, ByteArray.toList_eq] at h
  exact ByteArray.ext (Array.ext' h)
theorem sameU_iff (a b : Un) : sameU a b = true ↔ a = b := by
  constructor
  · intro h
    obtain ⟨k1, n1, m1, s1, c1, o1, d1, w1, a1, t1, g1⟩ := a
    obtain ⟨k2, n2, m2, s2, c2, o2, d2, w2, a2, t2, g2⟩ := b
    simp only [sameU, Bool.and_eq_true, beq_iff_eq, decide_eq_true_eq] at h
    obtain ⟨⟨⟨⟨⟨⟨⟨⟨⟨⟨h1, h2⟩, h3⟩, h4⟩, h5⟩, h6⟩, h7⟩, h8⟩, h9⟩, h10⟩, h11⟩ := h
    have := bytes_ext h4
    have := bytes_ext h8
    subst_vars
    rfl
  · rintro rfl; simp [sameU]
theorem sameU_dec (a b : Un) [d : Decidable (a = b)] : decide (a = b) = sameU a b := by
  rw [Bool.eq_iff_iff, decide_eq_true_eq, sameU_iff]
set_option maxHeartbeats 8000000 in
set_option maxRecDepth 100000 in
theorem usame_any (a b : Un) (u v : Value) (w : World) (hl : a.gaps.length ≤ 1000000) (hm : b.gaps.length ≤ 1000000) (hG : GapsAt w u a.gaps) (hM : GapsAt w v b.gaps) :
    Calls Try.prog 30 #[a.val u, b.val v] w fun e w' => e = .returned (.bool (sameU a b)) ∧ Below w.heap.size w w' := by
  have HL := Lib.hid (((Below.refl w.heap.size w).alloc (Nat.le_refl _) (Obj.cells (a.cells u).toArray 25)).alloc (by simp) (Obj.cells (b.cells v).toArray 25))
  have HA := Lib.hid ((Blk.new w (a.cells u) 25).alloc (Obj.cells (b.cells v).toArray 25))
  have HB := Lib.hid (Blk.new_at (w.alloc (Obj.cells (a.cells u).toArray 25)) (b.cells v) 25 (w.heap.size + 1) (by simp))
  have HE := Lib.hid (EqualG_any u v a.gaps b.gaps ((w.alloc (Obj.cells (a.cells u).toArray 25)).alloc (Obj.cells (b.cells v).toArray 25)) hl hm (hG.below HL.out (Nat.le_refl _)) (hM.below HL.out (Nat.le_refl _)))
  have HR := Lib.hid (show sameU a b = (decide (a.gaps = b.gaps) && (a.kind == b.kind) && (a.num == b.num) && (a.name.toList == b.name.toList) && (a.size == b.size) && (a.sum == b.sum) && (a.off == b.off) && (a.data.toList == b.data.toList) && (a.why == b.why) && (a.ans == b.ans) && (a.meta_ == b.meta_)) from rfl)
  obtain ⟨k1, n1, m1, s1, c1, o1, d1, w1, a1, t1, g1⟩ := a
  obtain ⟨k2, n2, m2, s2, c2, o2, d2, w2, a2, t2, g2⟩ := b
  simp only [Un.cells, Un.val] at HL HA HB HE HR ⊢
  obtain ⟨r, hr⟩ : ∃ r : Bool, r = sameU ⟨k1, n1, m1, s1, c1, o1, d1, w1, a1, t1, g1⟩ ⟨k2, n2, m2, s2, c2, o2, d2, w2, a2, t2, g2⟩ := ⟨_, rfl⟩
  obtain ⟨q, hq⟩ : ∃ q : Bool, q = decide (g1 = g2) := ⟨_, rfl⟩
  rw [← hr, ← hq] at HR
  rw [← hr]
  rw [← hq] at HE
  clear hr hq hG hM hl hm
  go_enter Try.func30, Try.ntmps30
  go_wp2_with fail
  refine HE.out.mono ?_
  rintro e w1 ⟨rfl, hL⟩
  replace HL := Lib.hid (HL.out.trans (hL.mono (by simp; omega)))
  replace HA := Lib.hid (HA.out.below hL (by simp; omega))
  replace HB := Lib.hid (HB.out.below hL (by simp))
  clear HE hL
  have x0 := HA.out.cell 0
  have x1 := HA.out.cell 1
  have x2 := HA.out.cell 2
  have x3 := HA.out.cell 3
  have x4 := HA.out.cell 4
  have x5 := HA.out.cell 5
  have x6 := HA.out.cell 6
  have x7 := HA.out.cell 7
  have x8 := HA.out.cell 8
  have x9 := HA.out.cell 9
  have x10 := HA.out.cell 10
  simp only [List.getElem?_cons_zero, List.getElem?_cons_succ] at x0 x1 x2 x3 x4 x5 x6 x7 x8 x9 x10
  have y0 := HB.out.cell 0
  have y1 := HB.out.cell 1
  have y2 := HB.out.cell 2
  have y3 := HB.out.cell 3
  have y4 := HB.out.cell 4
  have y5 := HB.out.cell 5
  have y6 := HB.out.cell 6
  have y7 := HB.out.cell 7
  have y8 := HB.out.cell 8
  have y9 := HB.out.cell 9
  have y10 := HB.out.cell 10
  simp only [List.getElem?_cons_zero, List.getElem?_cons_succ] at y0 y1 y2 y3 y4 y5 y6 y7 y8 y9 y10
  go_wp2_with fail
  all_goals
    go_ret
    refine ⟨?_, HL.out⟩
    refine (congrArg (fun z => Ending.returned (Value.bool z)) (Eq.trans ?_ HR.out.symm) : _)
    simp [*]
end Go.Proofs.Ytkpgenmlpkfokaa
