/- What is proved here: a part of the proof of TopLink (texts Ak3m Ak3o). No condition. -/
import Derived.Test.YtgopighmifpefaaGreatDoorPart13
import Derived.Test.YtgopighmifpefaaGreatDoorPart25
set_option linter.unusedVariables false
set_option linter.unusedSimpArgs false
namespace Go.Proofs.YtgopighmifpefaaGreatDoor
section
open Go.RowKit
attribute [local go_sem] run_tab0 run_tab1 run_tab2 run_tab3
set_option maxHeartbeats 4000000 in
set_option maxRecDepth 100000 in
theorem Feed_km (s : ByteArray) (a : Nat) (op op2 p1 p3 : Bool) (v : Value) (xs xs2 : List UInt8) (p2 : ByteArray) (w : World) (h1 : 2 ≤ s.size) (h2 : s.size ≤ 200) (hz : (s[0]'(by omega)).toNat = 0) (hA : AsmV w a op v xs)
    (hc : ∀ W, AsmV W a op v xs → Calls Tryz.prog 110 #[.pointer (some ⟨a, 0, none⟩), .string (s.extract 1 s.size)] W fun e w' => e = .returned (pieceV p1 p2 p3) ∧ ∃ v', AsmTo W w' a v v' ∧ AsmV w' a op2 v' xs2) :
    Calls Tryz.prog 70 #[.pointer (some ⟨a, 0, none⟩), .string s] w fun e w' => e = .returned (.tuple #[pieceV p1 p2 p3, .int .i64 0]) ∧ ∃ v', AsmTo w w' a v v' ∧ AsmV w' a op2 v' xs2 := by
  have HC := Lib.hid hc; clear hc
  have hal : a < w.heap.size := hA.1.lt
  have hne1 : a ≠ w.heap.size := by omega
  have hne2 : w.heap.size ≠ a := by omega
  have HNW := Lib.hid (hA.new_out (Nat.le_refl w.heap.size))
  have HA0 := Lib.hid (hA.below ((Below.refl w.heap.size w).alloc (Nat.le_refl _) (Obj.cells #[.bool false, .string ⟨#[]⟩, .int .i64 0, .bool false] 156)))
  have HZ0 := Lib.hid (Blk.new w (pieceC false ⟨#[]⟩ false) 156)
  obtain ⟨hB, _⟩ := hA
  have HB := Lib.hid (hB.alloc (Obj.cells #[.bool false, .string ⟨#[]⟩, .int .i64 0, .bool false] 156))
  clear hB
  have b0 := HB.out.cell 0
  have b1 := HB.out.cell 1
  have b2 := HB.out.cell 2
  simp only [List.getElem?_cons_zero, List.getElem?_cons_succ] at b0 b1 b2
  have k1 : ¬ ((s.size : Int) < 2) := by omega
  have k2 : ¬ ((200 : Int) < s.size) := by omega
  have k3 : (0 : Int) < s.size := by omega
  have HL0 := Lib.hid ((Keep.refl (a :: v.ownBlock.toList) w).alloc (Obj.cells #[.bool false, .string ⟨#[]⟩, .int .i64 0, .bool false] 156))
  go_enter Tryz.func70, Tryz.ntmps70
  go_wp2_with fail
  go_region_with (first | (go_at_call 99; refine (steps_any _).mono ?_; rintro e w' ⟨rfl, rfl⟩) | (go_at_call 110; refine (HC.out _ (HA0.out.below (((Below.refl _ _).alloc (Nat.le_refl _) _).drew))).mono ?_; rintro e w5 ⟨rfl, v5, hT5, hA5⟩; have hZ5 := Blk.keep (HZ0.out.alloc (Obj.cells #[.func (.func 110) #[] #[], .func (.func 111) #[] #[], .func (.func 112) #[] #[], .func (.func 113) #[] #[]] 177)).drew hT5.keep HNW.out; have z0 := hZ5.cell 0; have z1 := hZ5.cell 1; have z2 := hZ5.cell 2; have z3 := hZ5.cell 3; have y0 := hZ5.free 0; have y1 := hZ5.free 1; have y2 := hZ5.free 2; have y3 := hZ5.free 3; simp only [pieceC, List.getElem?_cons_zero, List.getElem?_cons_succ] at z0 z1 z2 z3; have HZ5 := Lib.hid hZ5; have HA5 := Lib.hid hA5; have HT5 := Lib.hid hT5; clear hZ5 hA5 hT5; simp only [pieceV]))
  all_goals
    go_wp2_with fail
    refine ret_cell_tmp rfl w.heap.size 156 (pieceC p1 p2 p3) rfl ((((HZ5.out.set 0 _).set 1 _).set 2 _).set 3 _) Tryz.underlying156 rfl (by kernel_rfl) rfl ?_
    have hK5 := ((HL0.out.alloc (Obj.cells #[.func (.func 110) #[] #[], .func (.func 111) #[] #[], .func (.func 112) #[] #[], .func (.func 113) #[] #[]] 177)).drew.trans HT5.out.keep)
    obtain ⟨hBa, hRa⟩ := HA5.out
    have hr2 := row_ne2 hRa HZ5.out (by decide)
    refine ⟨rfl, v5, ⟨((((hK5.setCell (.inr (Nat.le_refl _)) _).setCell (.inr (Nat.le_refl _)) _).setCell (.inr (Nat.le_refl _)) _).setCell (.inr (Nat.le_refl _)) _), fun k hk => (HT5.out.mv k hk).imp id (fun h => by simp at h; omega)⟩, ((((hBa.set_far hne1 _).set_far hne1 _).set_far hne1 _).set_far hne1 _), row_keep hRa (((((Keep.refl [w.heap.size] _).setCell (.inl (by simp)) _).setCell (.inl (by simp)) _).setCell (.inl (by simp)) _).setCell (.inl (by simp)) _) (fun g hg => by have := hr2 g hg; simp; omega)⟩
end
section
open Go.RowKit
attribute [local go_sem] run_tab0 run_tab1 run_tab2 run_tab3
set_option maxHeartbeats 4000000 in
set_option maxRecDepth 100000 in
theorem Feed_ko (s : ByteArray) (a : Nat) (op op2 p1 p3 : Bool) (v : Value) (xs xs2 : List UInt8) (p2 : ByteArray) (w : World) (h1 : 2 ≤ s.size) (h2 : s.size ≤ 200) (hz : (s[0]'(by omega)).toNat = 192) (hA : AsmV w a op v xs)
    (hc : ∀ W, AsmV W a op v xs → Calls Tryz.prog 113 #[.pointer (some ⟨a, 0, none⟩), .string (s.extract 1 s.size)] W fun e w' => e = .returned (pieceV p1 p2 p3) ∧ ∃ v', AsmTo W w' a v v' ∧ AsmV w' a op2 v' xs2) :
    Calls Tryz.prog 70 #[.pointer (some ⟨a, 0, none⟩), .string s] w fun e w' => e = .returned (.tuple #[pieceV p1 p2 p3, .int .i64 0]) ∧ ∃ v', AsmTo w w' a v v' ∧ AsmV w' a op2 v' xs2 := by
  have HC := Lib.hid hc; clear hc
  have hal : a < w.heap.size := hA.1.lt
  have hne1 : a ≠ w.heap.size := by omega
  have hne2 : w.heap.size ≠ a := by omega
  have HNW := Lib.hid (hA.new_out (Nat.le_refl w.heap.size))
  have HA0 := Lib.hid (hA.below ((Below.refl w.heap.size w).alloc (Nat.le_refl _) (Obj.cells #[.bool false, .string ⟨#[]⟩, .int .i64 0, .bool false] 156)))
  have HZ0 := Lib.hid (Blk.new w (pieceC false ⟨#[]⟩ false) 156)
  obtain ⟨hB, _⟩ := hA
  have HB := Lib.hid (hB.alloc (Obj.cells #[.bool false, .string ⟨#[]⟩, .int .i64 0, .bool false] 156))
  clear hB
  have b0 := HB.out.cell 0
  have b1 := HB.out.cell 1
  have b2 := HB.out.cell 2
  simp only [List.getElem?_cons_zero, List.getElem?_cons_succ] at b0 b1 b2
  have k1 : ¬ ((s.size : Int) < 2) := by omega
  have k2 : ¬ ((200 : Int) < s.size) := by omega
  have k3 : (0 : Int) < s.size := by omega
  have HL0 := Lib.hid ((Keep.refl (a :: v.ownBlock.toList) w).alloc (Obj.cells #[.bool false, .string ⟨#[]⟩, .int .i64 0, .bool false] 156))
  go_enter Tryz.func70, Tryz.ntmps70
  go_wp2_with fail
  go_region_with (first | (go_at_call 99; refine (steps_any _).mono ?_; rintro e w' ⟨rfl, rfl⟩) | (go_at_call 113; refine (HC.out _ (HA0.out.below (((Below.refl _ _).alloc (Nat.le_refl _) _).drew))).mono ?_; rintro e w5 ⟨rfl, v5, hT5, hA5⟩; have hZ5 := Blk.keep (HZ0.out.alloc (Obj.cells #[.func (.func 110) #[] #[], .func (.func 111) #[] #[], .func (.func 112) #[] #[], .func (.func 113) #[] #[]] 177)).drew hT5.keep HNW.out; have z0 := hZ5.cell 0; have z1 := hZ5.cell 1; have z2 := hZ5.cell 2; have z3 := hZ5.cell 3; have y0 := hZ5.free 0; have y1 := hZ5.free 1; have y2 := hZ5.free 2; have y3 := hZ5.free 3; simp only [pieceC, List.getElem?_cons_zero, List.getElem?_cons_succ] at z0 z1 z2 z3; have HZ5 := Lib.hid hZ5; have HA5 := Lib.hid hA5; have HT5 := Lib.hid hT5; clear hZ5 hA5 hT5; simp only [pieceV]))
  all_goals
    go_wp2_with fail
    refine ret_cell_tmp rfl w.heap.size 156 (pieceC p1 p2 p3) rfl ((((HZ5.out.set 0 _).set 1 _).set 2 _).set 3 _) Tryz.underlying156 rfl (by kernel_rfl) rfl ?_
    have hK5 := ((HL0.out.alloc (Obj.cells #[.func (.func 110) #[] #[], .func (.func 111) #[] #[], .func (.func 112) #[] #[], .func (.func 113) #[] #[]] 177)).drew.trans HT5.out.keep)
    obtain ⟨hBa, hRa⟩ := HA5.out
    have hr2 := row_ne2 hRa HZ5.out (by decide)
    refine ⟨rfl, v5, ⟨((((hK5.setCell (.inr (Nat.le_refl _)) _).setCell (.inr (Nat.le_refl _)) _).setCell (.inr (Nat.le_refl _)) _).setCell (.inr (Nat.le_refl _)) _), fun k hk => (HT5.out.mv k hk).imp id (fun h => by simp at h; omega)⟩, ((((hBa.set_far hne1 _).set_far hne1 _).set_far hne1 _).set_far hne1 _), row_keep hRa (((((Keep.refl [w.heap.size] _).setCell (.inl (by simp)) _).setCell (.inl (by simp)) _).setCell (.inl (by simp)) _).setCell (.inl (by simp)) _) (fun g hg => by have := hr2 g hg; simp; omega)⟩
end
end Go.Proofs.YtgopighmifpefaaGreatDoor
