/- What is proved here: the walk of the reference's Feed. -/
import Derived.Test.YtebgehmgjafblaaA7
import Derived.Test.YtebgehmgjafblaaF3
import Derived.Deep.DeepCutAuto
set_option linter.unusedVariables false
set_option linter.unusedSimpArgs false
namespace Go.Proofs.Ytebgehmgjafblaa
open Go.RowKit
set_option maxHeartbeats 4000000 in
set_option maxRecDepth 100000 in
theorem rFeed_64 (s t : ByteArray) (r : Nat) (op : Bool) (w : World) (h1 : 2 ≤ s.size) (h2 : s.size ≤ 200) (hz : (s[0]'(by omega)).toNat = 64) (ht : t.size ≤ 2000) (hB : Blk w r [.bool op, .string t] 53) :
    Calls Try.prog 28 #[.pointer (some ⟨r, 0, none⟩), .string s] w fun e w' => e = .returned (.tuple #[pieceV false ⟨#[]⟩ op, .int .i64 0]) ∧ Keep [r] w w' ∧ Blk w' r [.bool true, .string (s.extract 1 s.size)] 53 := by
  have hrl := hB.lt
  have hne : r ≠ w.heap.size := by omega
  have hnf : w.heap.size ≠ r := by omega
  have HB1 := Lib.hid (hB.alloc (Obj.cells #[.bool false, .string ⟨#[]⟩, .int .i64 0, .bool false] 57))
  have HZ1 := Lib.hid (Blk.new w (pieceC false ⟨#[]⟩ false) 57)
  have HK1 := Lib.hid ((Keep.refl [r] w).alloc (Obj.cells #[.bool false, .string ⟨#[]⟩, .int .i64 0, .bool false] 57))
  clear hB
  have k1 : ¬ ((s.size : Int) < 2) := by omega
  have k2 : ¬ ((200 : Int) < s.size) := by omega
  have k3 : (0 : Int) < s.size := by omega
  obtain ⟨p, hp⟩ : ∃ p, p = s.extract 1 s.size := ⟨_, rfl⟩
  go_enter Try.func28, Try.ntmps28
  go_wp2_with fail
  go_quiet (fail)
  refine gen_post (fun w' => Keep [r] w w' ∧ Blk w' r [.bool op, .string t] 53 ∧ Blk w' w.heap.size (pieceC false ⟨#[]⟩ false) 57) ⟨HK1.out.drewN _, HB1.out.drewN _, HZ1.out.drewN _⟩ ?_
  clear HB1 HZ1 HK1
  rintro w2 ⟨hK2, hB2, hZ2⟩
  have hn1 : r ≠ w2.heap.size := Nat.ne_of_lt hB2.lt
  have hn2 : w.heap.size ≠ w2.heap.size := Nat.ne_of_lt hZ2.lt
  have HK2 := Lib.hid hK2; have HB2 := Lib.hid hB2; have HZ2 := Lib.hid hZ2
  clear hK2 hB2 hZ2 k1 k2 k3
  go_upto_region 5 with fail
  rw [← hp]
  refine gen_world (fun W => Keep [r] w W ∧ Blk W r [.bool op, .string t] 53 ∧ Blk W w.heap.size (pieceC false ⟨#[]⟩ false) 57 ∧ Blk W w2.heap.size (pieceC false ⟨#[]⟩ false) 57) ⟨HK2.out.alloc _, HB2.out.alloc _, HZ2.out.alloc _, Blk.new w2 _ _⟩ ?_
  obtain ⟨O, hO⟩ : ∃ O, O = w2.heap.size := ⟨_, rfl⟩
  have hwO : w.heap.size ≤ O := by rw [hO]; exact HK2.out.size
  rw [← hO] at hn1 hn2 ⊢
  clear hO HK2 HB2 HZ2
  rintro w3 ⟨hK3, hB3, hZ3, hO3⟩
  have HK3 := Lib.hid hK3; have HB3 := Lib.hid hB3; have HZ3 := Lib.hid hZ3; have HO3 := Lib.hid hO3
  clear hK3 hB3 hZ3 hO3
  have b0 := HB3.out.cell 0
  have b1 := HB3.out.cell 1
  simp only [List.getElem?_cons_zero, List.getElem?_cons_succ] at b0 b1
  have f0 := HB3.out.free 0
  have f1 := HB3.out.free 1
  have z0 := HZ3.out.cell 0
  have z1 := HZ3.out.cell 1
  have z2 := HZ3.out.cell 2
  have z3 := HZ3.out.cell 3
  simp only [pieceC, List.getElem?_cons_zero, List.getElem?_cons_succ] at z0 z1 z2 z3
  have y0 := HZ3.out.free 0
  have y1 := HZ3.out.free 1
  have y2 := HZ3.out.free 2
  have y3 := HZ3.out.free 3
  have x0 := HO3.out.cell 0
  have x1 := HO3.out.cell 1
  have x2 := HO3.out.cell 2
  have x3 := HO3.out.cell 3
  simp only [pieceC, List.getElem?_cons_zero, List.getElem?_cons_succ] at x0 x1 x2 x3
  have v0 := HO3.out.free 0
  have v1 := HO3.out.free 1
  have v2 := HO3.out.free 2
  have v3 := HO3.out.free 3
  have HP := Lib.hid hp; clear hp
  go_wp2_with fail
  have hp := HP.out
  subst hp
  refine ret_cell_tmp rfl w.heap.size 57 (pieceC false ⟨#[]⟩ op) rfl (((((((HZ3.out.set_far hn2 _).set_far hnf _).set_far hnf _).set 0 _).set 1 _).set 2 _).set 3 _) Try.underlying57 rfl (by kernel_rfl) rfl ?_
  exact ⟨rfl, (((((((HK3.out.setCell (p := ⟨O, 3, none⟩) (.inr hwO) _).setCell (p := ⟨r, 0, none⟩) (.inl (by simp)) _).setCell (p := ⟨r, 1, none⟩) (.inl (by simp)) _).setCell (p := ⟨w.heap.size, 0, none⟩) (.inr (Nat.le_refl _)) _).setCell (p := ⟨w.heap.size, 1, none⟩) (.inr (Nat.le_refl _)) _).setCell (p := ⟨w.heap.size, 2, none⟩) (.inr (Nat.le_refl _)) _).setCell (p := ⟨w.heap.size, 3, none⟩) (.inr (Nat.le_refl _)) _), (((((((HB3.out.set_far hn1 _).set 0 _).set 1 _).set_far hne _).set_far hne _).set_far hne _).set_far hne _)⟩
set_option maxHeartbeats 4000000 in
set_option maxRecDepth 100000 in
theorem rFeed_192 (s t : ByteArray) (r : Nat) (op : Bool) (w : World) (h1 : 2 ≤ s.size) (h2 : s.size ≤ 200) (hz : (s[0]'(by omega)).toNat = 192) (ht : t.size ≤ 2000) (hB : Blk w r [.bool op, .string t] 53) :
    Calls Try.prog 28 #[.pointer (some ⟨r, 0, none⟩), .string s] w fun e w' => e = .returned (.tuple #[pieceV true (s.extract 1 s.size) op, .int .i64 0]) ∧ Keep [r] w w' ∧ Blk w' r [.bool false, .string (s.extract 1 s.size)] 53 := by
  have hrl := hB.lt
  have hne : r ≠ w.heap.size := by omega
  have hnf : w.heap.size ≠ r := by omega
  have HB1 := Lib.hid (hB.alloc (Obj.cells #[.bool false, .string ⟨#[]⟩, .int .i64 0, .bool false] 57))
  have HZ1 := Lib.hid (Blk.new w (pieceC false ⟨#[]⟩ false) 57)
  have HK1 := Lib.hid ((Keep.refl [r] w).alloc (Obj.cells #[.bool false, .string ⟨#[]⟩, .int .i64 0, .bool false] 57))
  clear hB
  have k1 : ¬ ((s.size : Int) < 2) := by omega
  have k2 : ¬ ((200 : Int) < s.size) := by omega
  have k3 : (0 : Int) < s.size := by omega
  obtain ⟨p, hp⟩ : ∃ p, p = s.extract 1 s.size := ⟨_, rfl⟩
  go_enter Try.func28, Try.ntmps28
  go_wp2_with fail
  go_quiet (fail)
  refine gen_post (fun w' => Keep [r] w w' ∧ Blk w' r [.bool op, .string t] 53 ∧ Blk w' w.heap.size (pieceC false ⟨#[]⟩ false) 57) ⟨HK1.out.drewN _, HB1.out.drewN _, HZ1.out.drewN _⟩ ?_
  clear HB1 HZ1 HK1
  rintro w2 ⟨hK2, hB2, hZ2⟩
  have hn1 : r ≠ w2.heap.size := Nat.ne_of_lt hB2.lt
  have hn2 : w.heap.size ≠ w2.heap.size := Nat.ne_of_lt hZ2.lt
  have HK2 := Lib.hid hK2; have HB2 := Lib.hid hB2; have HZ2 := Lib.hid hZ2
  clear hK2 hB2 hZ2 k1 k2 k3
  go_upto_region 5 with fail
  rw [← hp]
  refine gen_world (fun W => Keep [r] w W ∧ Blk W r [.bool op, .string t] 53 ∧ Blk W w.heap.size (pieceC false ⟨#[]⟩ false) 57 ∧ Blk W w2.heap.size (pieceC false ⟨#[]⟩ false) 57) ⟨HK2.out.alloc _, HB2.out.alloc _, HZ2.out.alloc _, Blk.new w2 _ _⟩ ?_
  obtain ⟨O, hO⟩ : ∃ O, O = w2.heap.size := ⟨_, rfl⟩
  have hwO : w.heap.size ≤ O := by rw [hO]; exact HK2.out.size
  rw [← hO] at hn1 hn2 ⊢
  clear hO HK2 HB2 HZ2
  rintro w3 ⟨hK3, hB3, hZ3, hO3⟩
  have HK3 := Lib.hid hK3; have HB3 := Lib.hid hB3; have HZ3 := Lib.hid hZ3; have HO3 := Lib.hid hO3
  clear hK3 hB3 hZ3 hO3
  have b0 := HB3.out.cell 0
  have b1 := HB3.out.cell 1
  simp only [List.getElem?_cons_zero, List.getElem?_cons_succ] at b0 b1
  have f0 := HB3.out.free 0
  have f1 := HB3.out.free 1
  have z0 := HZ3.out.cell 0
  have z1 := HZ3.out.cell 1
  have z2 := HZ3.out.cell 2
  have z3 := HZ3.out.cell 3
  simp only [pieceC, List.getElem?_cons_zero, List.getElem?_cons_succ] at z0 z1 z2 z3
  have y0 := HZ3.out.free 0
  have y1 := HZ3.out.free 1
  have y2 := HZ3.out.free 2
  have y3 := HZ3.out.free 3
  have x0 := HO3.out.cell 0
  have x1 := HO3.out.cell 1
  have x2 := HO3.out.cell 2
  have x3 := HO3.out.cell 3
  simp only [pieceC, List.getElem?_cons_zero, List.getElem?_cons_succ] at x0 x1 x2 x3
  have v0 := HO3.out.free 0
  have v1 := HO3.out.free 1
  have v2 := HO3.out.free 2
  have v3 := HO3.out.free 3
  have HP := Lib.hid hp; clear hp
  go_upto_region 8 with fail
  refine gen_world (fun W => Keep [r] w W ∧ Blk W r [.bool false, .string p] 53 ∧ Blk W w.heap.size (pieceC false ⟨#[]⟩ false) 57 ∧ Blk W O (pieceC false ⟨#[]⟩ op) 57) ⟨((HK3.out.setCell (p := ⟨O, 3, none⟩) (.inr hwO) _).setCell (p := ⟨r, 0, none⟩) (.inl (by simp)) _).setCell (p := ⟨r, 1, none⟩) (.inl (by simp)) _, ((HB3.out.set_far hn1 _).set 0 _).set 1 _, ((HZ3.out.set_far hn2 _).set_far hnf _).set_far hnf _, ((HO3.out.set 3 _).set_far (Ne.symm hn1) _).set_far (Ne.symm hn1) _⟩ ?_
  clear b0 b1 f0 f1 z0 z1 z2 z3 y0 y1 y2 y3 x0 x1 x2 x3 v0 v1 v2 v3 HK3 HB3 HZ3 HO3
  rintro w4 ⟨hK3, hB3, hZ3, hO3⟩
  have HK3 := Lib.hid hK3; have HB3 := Lib.hid hB3; have HZ3 := Lib.hid hZ3; have HO3 := Lib.hid hO3
  clear hK3 hB3 hZ3 hO3
  have b0 := HB3.out.cell 0
  have b1 := HB3.out.cell 1
  simp only [List.getElem?_cons_zero, List.getElem?_cons_succ] at b0 b1
  have f0 := HB3.out.free 0
  have f1 := HB3.out.free 1
  have z0 := HZ3.out.cell 0
  have z1 := HZ3.out.cell 1
  have z2 := HZ3.out.cell 2
  have z3 := HZ3.out.cell 3
  simp only [pieceC, List.getElem?_cons_zero, List.getElem?_cons_succ] at z0 z1 z2 z3
  have y0 := HZ3.out.free 0
  have y1 := HZ3.out.free 1
  have y2 := HZ3.out.free 2
  have y3 := HZ3.out.free 3
  have x0 := HO3.out.cell 0
  have x1 := HO3.out.cell 1
  have x2 := HO3.out.cell 2
  have x3 := HO3.out.cell 3
  simp only [pieceC, List.getElem?_cons_zero, List.getElem?_cons_succ] at x0 x1 x2 x3
  have v0 := HO3.out.free 0
  have v1 := HO3.out.free 1
  have v2 := HO3.out.free 2
  have v3 := HO3.out.free 3
  go_wp2_with fail
  have hp := HP.out
  subst hp
  refine ret_cell_tmp rfl w.heap.size 57 (pieceC true (s.extract 1 s.size) op) rfl ((((((HZ3.out.set_far hn2 _).set_far hn2 _).set 0 _).set 1 _).set 2 _).set 3 _) Try.underlying57 rfl (by kernel_rfl) rfl ?_
  exact ⟨rfl, ((((((HK3.out.setCell (p := ⟨O, 0, none⟩) (.inr hwO) _).setCell (p := ⟨O, 1, none⟩) (.inr hwO) _).setCell (p := ⟨w.heap.size, 0, none⟩) (.inr (Nat.le_refl _)) _).setCell (p := ⟨w.heap.size, 1, none⟩) (.inr (Nat.le_refl _)) _).setCell (p := ⟨w.heap.size, 2, none⟩) (.inr (Nat.le_refl _)) _).setCell (p := ⟨w.heap.size, 3, none⟩) (.inr (Nat.le_refl _)) _), ((((((HB3.out.set_far hn1 _).set_far hn1 _).set_far hne _).set_far hne _).set_far hne _).set_far hne _)⟩
set_option maxHeartbeats 4000000 in
set_option maxRecDepth 100000 in
theorem rFeed_0n (s t : ByteArray) (r : Nat) (w : World) (h1 : 2 ≤ s.size) (h2 : s.size ≤ 200) (hz : (s[0]'(by omega)).toNat = 0) (ht : t.size ≤ 2000) (hB : Blk w r [.bool false, .string t] 53) :
    Calls Try.prog 28 #[.pointer (some ⟨r, 0, none⟩), .string s] w fun e w' => e = .returned (.tuple #[pieceV false ⟨#[]⟩ false, .int .i64 0]) ∧ Keep [r] w w' ∧ Blk w' r [.bool false, .string t] 53 := by
  have hrl := hB.lt
  have hne : r ≠ w.heap.size := by omega
  have hnf : w.heap.size ≠ r := by omega
  have HB1 := Lib.hid (hB.alloc (Obj.cells #[.bool false, .string ⟨#[]⟩, .int .i64 0, .bool false] 57))
  have HZ1 := Lib.hid (Blk.new w (pieceC false ⟨#[]⟩ false) 57)
  have HK1 := Lib.hid ((Keep.refl [r] w).alloc (Obj.cells #[.bool false, .string ⟨#[]⟩, .int .i64 0, .bool false] 57))
  clear hB
  have k1 : ¬ ((s.size : Int) < 2) := by omega
  have k2 : ¬ ((200 : Int) < s.size) := by omega
  have k3 : (0 : Int) < s.size := by omega
  obtain ⟨p, hp⟩ : ∃ p, p = s.extract 1 s.size := ⟨_, rfl⟩
  go_enter Try.func28, Try.ntmps28
  go_wp2_with fail
  go_quiet (fail)
  refine gen_post (fun w' => Keep [r] w w' ∧ Blk w' r [.bool false, .string t] 53 ∧ Blk w' w.heap.size (pieceC false ⟨#[]⟩ false) 57) ⟨HK1.out.drewN _, HB1.out.drewN _, HZ1.out.drewN _⟩ ?_
  clear HB1 HZ1 HK1
  rintro w2 ⟨hK2, hB2, hZ2⟩
  have hn1 : r ≠ w2.heap.size := Nat.ne_of_lt hB2.lt
  have hn2 : w.heap.size ≠ w2.heap.size := Nat.ne_of_lt hZ2.lt
  have HK2 := Lib.hid hK2; have HB2 := Lib.hid hB2; have HZ2 := Lib.hid hZ2
  clear hK2 hB2 hZ2 k1 k2 k3
  go_upto_region 5 with fail
  rw [← hp]
  refine gen_world (fun W => Keep [r] w W ∧ Blk W r [.bool false, .string t] 53 ∧ Blk W w.heap.size (pieceC false ⟨#[]⟩ false) 57 ∧ Blk W w2.heap.size (pieceC false ⟨#[]⟩ false) 57) ⟨HK2.out.alloc _, HB2.out.alloc _, HZ2.out.alloc _, Blk.new w2 _ _⟩ ?_
  obtain ⟨O, hO⟩ : ∃ O, O = w2.heap.size := ⟨_, rfl⟩
  have hwO : w.heap.size ≤ O := by rw [hO]; exact HK2.out.size
  rw [← hO] at hn1 hn2 ⊢
  clear hO HK2 HB2 HZ2
  rintro w3 ⟨hK3, hB3, hZ3, hO3⟩
  have HK3 := Lib.hid hK3; have HB3 := Lib.hid hB3; have HZ3 := Lib.hid hZ3; have HO3 := Lib.hid hO3
  clear hK3 hB3 hZ3 hO3
  have b0 := HB3.out.cell 0
  have b1 := HB3.out.cell 1
  simp only [List.getElem?_cons_zero, List.getElem?_cons_succ] at b0 b1
  have f0 := HB3.out.free 0
  have f1 := HB3.out.free 1
  have z0 := HZ3.out.cell 0
  have z1 := HZ3.out.cell 1
  have z2 := HZ3.out.cell 2
  have z3 := HZ3.out.cell 3
  simp only [pieceC, List.getElem?_cons_zero, List.getElem?_cons_succ] at z0 z1 z2 z3
  have y0 := HZ3.out.free 0
  have y1 := HZ3.out.free 1
  have y2 := HZ3.out.free 2
  have y3 := HZ3.out.free 3
  have x0 := HO3.out.cell 0
  have x1 := HO3.out.cell 1
  have x2 := HO3.out.cell 2
  have x3 := HO3.out.cell 3
  simp only [pieceC, List.getElem?_cons_zero, List.getElem?_cons_succ] at x0 x1 x2 x3
  have v0 := HO3.out.free 0
  have v1 := HO3.out.free 1
  have v2 := HO3.out.free 2
  have v3 := HO3.out.free 3
  have HP := Lib.hid hp; clear hp
  go_wp2_with fail
  have hp := HP.out
  subst hp
  refine ret_cell_tmp rfl w.heap.size 57 (pieceC false ⟨#[]⟩ false) rfl ((((HZ3.out.set 0 _).set 1 _).set 2 _).set 3 _) Try.underlying57 rfl (by kernel_rfl) rfl ?_
  exact ⟨rfl, ((((HK3.out.setCell (p := ⟨w.heap.size, 0, none⟩) (.inr (Nat.le_refl _)) _).setCell (p := ⟨w.heap.size, 1, none⟩) (.inr (Nat.le_refl _)) _).setCell (p := ⟨w.heap.size, 2, none⟩) (.inr (Nat.le_refl _)) _).setCell (p := ⟨w.heap.size, 3, none⟩) (.inr (Nat.le_refl _)) _), ((((HB3.out.set_far hne _).set_far hne _).set_far hne _).set_far hne _)⟩
set_option maxHeartbeats 4000000 in
set_option maxRecDepth 100000 in
theorem rFeed_128n (s t : ByteArray) (r : Nat) (w : World) (h1 : 2 ≤ s.size) (h2 : s.size ≤ 200) (hz : (s[0]'(by omega)).toNat = 128) (ht : t.size ≤ 2000) (hB : Blk w r [.bool false, .string t] 53) :
    Calls Try.prog 28 #[.pointer (some ⟨r, 0, none⟩), .string s] w fun e w' => e = .returned (.tuple #[pieceV false ⟨#[]⟩ false, .int .i64 0]) ∧ Keep [r] w w' ∧ Blk w' r [.bool false, .string t] 53 := by
  have hrl := hB.lt
  have hne : r ≠ w.heap.size := by omega
  have hnf : w.heap.size ≠ r := by omega
  have HB1 := Lib.hid (hB.alloc (Obj.cells #[.bool false, .string ⟨#[]⟩, .int .i64 0, .bool false] 57))
  have HZ1 := Lib.hid (Blk.new w (pieceC false ⟨#[]⟩ false) 57)
  have HK1 := Lib.hid ((Keep.refl [r] w).alloc (Obj.cells #[.bool false, .string ⟨#[]⟩, .int .i64 0, .bool false] 57))
  clear hB
  have k1 : ¬ ((s.size : Int) < 2) := by omega
  have k2 : ¬ ((200 : Int) < s.size) := by omega
  have k3 : (0 : Int) < s.size := by omega
  obtain ⟨p, hp⟩ : ∃ p, p = s.extract 1 s.size := ⟨_, rfl⟩
  go_enter Try.func28, Try.ntmps28
  go_wp2_with fail
  go_quiet (fail)
  refine gen_post (fun w' => Keep [r] w w' ∧ Blk w' r [.bool false, .string t] 53 ∧ Blk w' w.heap.size (pieceC false ⟨#[]⟩ false) 57) ⟨HK1.out.drewN _, HB1.out.drewN _, HZ1.out.drewN _⟩ ?_
  clear HB1 HZ1 HK1
  rintro w2 ⟨hK2, hB2, hZ2⟩
  have hn1 : r ≠ w2.heap.size := Nat.ne_of_lt hB2.lt
  have hn2 : w.heap.size ≠ w2.heap.size := Nat.ne_of_lt hZ2.lt
  have HK2 := Lib.hid hK2; have HB2 := Lib.hid hB2; have HZ2 := Lib.hid hZ2
  clear hK2 hB2 hZ2 k1 k2 k3
  go_upto_region 5 with fail
  rw [← hp]
  refine gen_world (fun W => Keep [r] w W ∧ Blk W r [.bool false, .string t] 53 ∧ Blk W w.heap.size (pieceC false ⟨#[]⟩ false) 57 ∧ Blk W w2.heap.size (pieceC false ⟨#[]⟩ false) 57) ⟨HK2.out.alloc _, HB2.out.alloc _, HZ2.out.alloc _, Blk.new w2 _ _⟩ ?_
  obtain ⟨O, hO⟩ : ∃ O, O = w2.heap.size := ⟨_, rfl⟩
  have hwO : w.heap.size ≤ O := by rw [hO]; exact HK2.out.size
  rw [← hO] at hn1 hn2 ⊢
  clear hO HK2 HB2 HZ2
  rintro w3 ⟨hK3, hB3, hZ3, hO3⟩
  have HK3 := Lib.hid hK3; have HB3 := Lib.hid hB3; have HZ3 := Lib.hid hZ3; have HO3 := Lib.hid hO3
  clear hK3 hB3 hZ3 hO3
  have b0 := HB3.out.cell 0
  have b1 := HB3.out.cell 1
  simp only [List.getElem?_cons_zero, List.getElem?_cons_succ] at b0 b1
  have f0 := HB3.out.free 0
  have f1 := HB3.out.free 1
  have z0 := HZ3.out.cell 0
  have z1 := HZ3.out.cell 1
  have z2 := HZ3.out.cell 2
  have z3 := HZ3.out.cell 3
  simp only [pieceC, List.getElem?_cons_zero, List.getElem?_cons_succ] at z0 z1 z2 z3
  have y0 := HZ3.out.free 0
  have y1 := HZ3.out.free 1
  have y2 := HZ3.out.free 2
  have y3 := HZ3.out.free 3
  have x0 := HO3.out.cell 0
  have x1 := HO3.out.cell 1
  have x2 := HO3.out.cell 2
  have x3 := HO3.out.cell 3
  simp only [pieceC, List.getElem?_cons_zero, List.getElem?_cons_succ] at x0 x1 x2 x3
  have v0 := HO3.out.free 0
  have v1 := HO3.out.free 1
  have v2 := HO3.out.free 2
  have v3 := HO3.out.free 3
  have HP := Lib.hid hp; clear hp
  go_wp2_with fail
  have hp := HP.out
  subst hp
  refine ret_cell_tmp rfl w.heap.size 57 (pieceC false ⟨#[]⟩ false) rfl ((((HZ3.out.set 0 _).set 1 _).set 2 _).set 3 _) Try.underlying57 rfl (by kernel_rfl) rfl ?_
  exact ⟨rfl, ((((HK3.out.setCell (p := ⟨w.heap.size, 0, none⟩) (.inr (Nat.le_refl _)) _).setCell (p := ⟨w.heap.size, 1, none⟩) (.inr (Nat.le_refl _)) _).setCell (p := ⟨w.heap.size, 2, none⟩) (.inr (Nat.le_refl _)) _).setCell (p := ⟨w.heap.size, 3, none⟩) (.inr (Nat.le_refl _)) _), ((((HB3.out.set_far hne _).set_far hne _).set_far hne _).set_far hne _)⟩
set_option maxHeartbeats 4000000 in
set_option maxRecDepth 100000 in
theorem rFeed_0l (s t : ByteArray) (r : Nat) (w : World) (h1 : 2 ≤ s.size) (h2 : s.size ≤ 200) (hz : (s[0]'(by omega)).toNat = 0) (hl : 1030 < (t ++ (s.extract 1 s.size)).size) (ht : t.size ≤ 2000) (hB : Blk w r [.bool true, .string t] 53) :
    Calls Try.prog 28 #[.pointer (some ⟨r, 0, none⟩), .string s] w fun e w' => e = .returned (.tuple #[pieceV false ⟨#[]⟩ true, .int .i64 0]) ∧ Keep [r] w w' ∧ Blk w' r [.bool false, .string (t ++ (s.extract 1 s.size))] 53 := by
  have hrl := hB.lt
  have hne : r ≠ w.heap.size := by omega
  have hnf : w.heap.size ≠ r := by omega
  have HB1 := Lib.hid (hB.alloc (Obj.cells #[.bool false, .string ⟨#[]⟩, .int .i64 0, .bool false] 57))
  have HZ1 := Lib.hid (Blk.new w (pieceC false ⟨#[]⟩ false) 57)
  have HK1 := Lib.hid ((Keep.refl [r] w).alloc (Obj.cells #[.bool false, .string ⟨#[]⟩, .int .i64 0, .bool false] 57))
  clear hB
  have k1 : ¬ ((s.size : Int) < 2) := by omega
  have k2 : ¬ ((200 : Int) < s.size) := by omega
  have k3 : (0 : Int) < s.size := by omega
  obtain ⟨p, hp⟩ : ∃ p, p = s.extract 1 s.size := ⟨_, rfl⟩
  go_enter Try.func28, Try.ntmps28
  go_wp2_with fail
  go_quiet (fail)
  refine gen_post (fun w' => Keep [r] w w' ∧ Blk w' r [.bool true, .string t] 53 ∧ Blk w' w.heap.size (pieceC false ⟨#[]⟩ false) 57) ⟨HK1.out.drewN _, HB1.out.drewN _, HZ1.out.drewN _⟩ ?_
  clear HB1 HZ1 HK1
  rintro w2 ⟨hK2, hB2, hZ2⟩
  have hn1 : r ≠ w2.heap.size := Nat.ne_of_lt hB2.lt
  have hn2 : w.heap.size ≠ w2.heap.size := Nat.ne_of_lt hZ2.lt
  have HK2 := Lib.hid hK2; have HB2 := Lib.hid hB2; have HZ2 := Lib.hid hZ2
  clear hK2 hB2 hZ2 k1 k2 k3
  go_upto_region 5 with fail
  rw [← hp] at hl ⊢
  refine gen_world (fun W => Keep [r] w W ∧ Blk W r [.bool true, .string t] 53 ∧ Blk W w.heap.size (pieceC false ⟨#[]⟩ false) 57 ∧ Blk W w2.heap.size (pieceC false ⟨#[]⟩ false) 57) ⟨HK2.out.alloc _, HB2.out.alloc _, HZ2.out.alloc _, Blk.new w2 _ _⟩ ?_
  obtain ⟨O, hO⟩ : ∃ O, O = w2.heap.size := ⟨_, rfl⟩
  have hwO : w.heap.size ≤ O := by rw [hO]; exact HK2.out.size
  rw [← hO] at hn1 hn2 ⊢
  clear hO HK2 HB2 HZ2
  rintro w3 ⟨hK3, hB3, hZ3, hO3⟩
  have HK3 := Lib.hid hK3; have HB3 := Lib.hid hB3; have HZ3 := Lib.hid hZ3; have HO3 := Lib.hid hO3
  clear hK3 hB3 hZ3 hO3
  have b0 := HB3.out.cell 0
  have b1 := HB3.out.cell 1
  simp only [List.getElem?_cons_zero, List.getElem?_cons_succ] at b0 b1
  have f0 := HB3.out.free 0
  have f1 := HB3.out.free 1
  have z0 := HZ3.out.cell 0
  have z1 := HZ3.out.cell 1
  have z2 := HZ3.out.cell 2
  have z3 := HZ3.out.cell 3
  simp only [pieceC, List.getElem?_cons_zero, List.getElem?_cons_succ] at z0 z1 z2 z3
  have y0 := HZ3.out.free 0
  have y1 := HZ3.out.free 1
  have y2 := HZ3.out.free 2
  have y3 := HZ3.out.free 3
  have x0 := HO3.out.cell 0
  have x1 := HO3.out.cell 1
  have x2 := HO3.out.cell 2
  have x3 := HO3.out.cell 3
  simp only [pieceC, List.getElem?_cons_zero, List.getElem?_cons_succ] at x0 x1 x2 x3
  have v0 := HO3.out.free 0
  have v1 := HO3.out.free 1
  have v2 := HO3.out.free 2
  have v3 := HO3.out.free 3
  have HP := Lib.hid hp; clear hp
  have hlz : (t ++ p).size = t.size + p.size := by simp
  have hps : p.size ≤ 200 := by rw [HP.out]; simp; omega
  have hb : ¬ (9223372036854775807 : Int) < t.size + p.size := by omega
  have hl2 : (1030 : Int) < (t.size : Int) + p.size := by omega
  go_wp2_with fail
  have hp := HP.out
  subst hp
  refine ret_cell_tmp rfl w.heap.size 57 (pieceC false ⟨#[]⟩ true) rfl (((((((HZ3.out.set_far hnf _).set_far hnf _).set_far hn2 _).set 0 _).set 1 _).set 2 _).set 3 _) Try.underlying57 rfl (by kernel_rfl) rfl ?_
  exact ⟨rfl, (((((((HK3.out.setCell (p := ⟨r, 1, none⟩) (.inl (by simp)) _).setCell (p := ⟨r, 0, none⟩) (.inl (by simp)) _).setCell (p := ⟨O, 3, none⟩) (.inr hwO) _).setCell (p := ⟨w.heap.size, 0, none⟩) (.inr (Nat.le_refl _)) _).setCell (p := ⟨w.heap.size, 1, none⟩) (.inr (Nat.le_refl _)) _).setCell (p := ⟨w.heap.size, 2, none⟩) (.inr (Nat.le_refl _)) _).setCell (p := ⟨w.heap.size, 3, none⟩) (.inr (Nat.le_refl _)) _), (((((((HB3.out.set 1 _).set 0 _).set_far hn1 _).set_far hne _).set_far hne _).set_far hne _).set_far hne _)⟩
set_option maxHeartbeats 4000000 in
set_option maxRecDepth 100000 in
theorem rFeed_0s (s t : ByteArray) (r : Nat) (w : World) (h1 : 2 ≤ s.size) (h2 : s.size ≤ 200) (hz : (s[0]'(by omega)).toNat = 0) (hl : ¬ 1030 < (t ++ (s.extract 1 s.size)).size) (ht : t.size ≤ 2000) (hB : Blk w r [.bool true, .string t] 53) :
    Calls Try.prog 28 #[.pointer (some ⟨r, 0, none⟩), .string s] w fun e w' => e = .returned (.tuple #[pieceV false ⟨#[]⟩ false, .int .i64 0]) ∧ Keep [r] w w' ∧ Blk w' r [.bool true, .string (t ++ (s.extract 1 s.size))] 53 := by
  have hrl := hB.lt
  have hne : r ≠ w.heap.size := by omega
  have hnf : w.heap.size ≠ r := by omega
  have HB1 := Lib.hid (hB.alloc (Obj.cells #[.bool false, .string ⟨#[]⟩, .int .i64 0, .bool false] 57))
  have HZ1 := Lib.hid (Blk.new w (pieceC false ⟨#[]⟩ false) 57)
  have HK1 := Lib.hid ((Keep.refl [r] w).alloc (Obj.cells #[.bool false, .string ⟨#[]⟩, .int .i64 0, .bool false] 57))
  clear hB
  have k1 : ¬ ((s.size : Int) < 2) := by omega
  have k2 : ¬ ((200 : Int) < s.size) := by omega
  have k3 : (0 : Int) < s.size := by omega
  obtain ⟨p, hp⟩ : ∃ p, p = s.extract 1 s.size := ⟨_, rfl⟩
  go_enter Try.func28, Try.ntmps28
  go_wp2_with fail
  go_quiet (fail)
  refine gen_post (fun w' => Keep [r] w w' ∧ Blk w' r [.bool true, .string t] 53 ∧ Blk w' w.heap.size (pieceC false ⟨#[]⟩ false) 57) ⟨HK1.out.drewN _, HB1.out.drewN _, HZ1.out.drewN _⟩ ?_
  clear HB1 HZ1 HK1
  rintro w2 ⟨hK2, hB2, hZ2⟩
  have hn1 : r ≠ w2.heap.size := Nat.ne_of_lt hB2.lt
  have hn2 : w.heap.size ≠ w2.heap.size := Nat.ne_of_lt hZ2.lt
  have HK2 := Lib.hid hK2; have HB2 := Lib.hid hB2; have HZ2 := Lib.hid hZ2
  clear hK2 hB2 hZ2 k1 k2 k3
  go_upto_region 5 with fail
  rw [← hp] at hl ⊢
  refine gen_world (fun W => Keep [r] w W ∧ Blk W r [.bool true, .string t] 53 ∧ Blk W w.heap.size (pieceC false ⟨#[]⟩ false) 57 ∧ Blk W w2.heap.size (pieceC false ⟨#[]⟩ false) 57) ⟨HK2.out.alloc _, HB2.out.alloc _, HZ2.out.alloc _, Blk.new w2 _ _⟩ ?_
  obtain ⟨O, hO⟩ : ∃ O, O = w2.heap.size := ⟨_, rfl⟩
  have hwO : w.heap.size ≤ O := by rw [hO]; exact HK2.out.size
  rw [← hO] at hn1 hn2 ⊢
  clear hO HK2 HB2 HZ2
  rintro w3 ⟨hK3, hB3, hZ3, hO3⟩
  have HK3 := Lib.hid hK3; have HB3 := Lib.hid hB3; have HZ3 := Lib.hid hZ3; have HO3 := Lib.hid hO3
  clear hK3 hB3 hZ3 hO3
  have b0 := HB3.out.cell 0
  have b1 := HB3.out.cell 1
  simp only [List.getElem?_cons_zero, List.getElem?_cons_succ] at b0 b1
  have f0 := HB3.out.free 0
  have f1 := HB3.out.free 1
  have z0 := HZ3.out.cell 0
  have z1 := HZ3.out.cell 1
  have z2 := HZ3.out.cell 2
  have z3 := HZ3.out.cell 3
  simp only [pieceC, List.getElem?_cons_zero, List.getElem?_cons_succ] at z0 z1 z2 z3
  have y0 := HZ3.out.free 0
  have y1 := HZ3.out.free 1
  have y2 := HZ3.out.free 2
  have y3 := HZ3.out.free 3
  have x0 := HO3.out.cell 0
  have x1 := HO3.out.cell 1
  have x2 := HO3.out.cell 2
  have x3 := HO3.out.cell 3
  simp only [pieceC, List.getElem?_cons_zero, List.getElem?_cons_succ] at x0 x1 x2 x3
  have v0 := HO3.out.free 0
  have v1 := HO3.out.free 1
  have v2 := HO3.out.free 2
  have v3 := HO3.out.free 3
  have HP := Lib.hid hp; clear hp
  have hlz : (t ++ p).size = t.size + p.size := by simp
  have hps : p.size ≤ 200 := by rw [HP.out]; simp; omega
  have hb : ¬ (9223372036854775807 : Int) < t.size + p.size := by omega
  have hl2 : ¬ (1030 : Int) < (t.size : Int) + p.size := by omega
  go_wp2_with fail
  have hp := HP.out
  subst hp
  refine ret_cell_tmp rfl w.heap.size 57 (pieceC false ⟨#[]⟩ false) rfl (((((HZ3.out.set_far hnf _).set 0 _).set 1 _).set 2 _).set 3 _) Try.underlying57 rfl (by kernel_rfl) rfl ?_
  exact ⟨rfl, (((((HK3.out.setCell (p := ⟨r, 1, none⟩) (.inl (by simp)) _).setCell (p := ⟨w.heap.size, 0, none⟩) (.inr (Nat.le_refl _)) _).setCell (p := ⟨w.heap.size, 1, none⟩) (.inr (Nat.le_refl _)) _).setCell (p := ⟨w.heap.size, 2, none⟩) (.inr (Nat.le_refl _)) _).setCell (p := ⟨w.heap.size, 3, none⟩) (.inr (Nat.le_refl _)) _), (((((HB3.out.set 1 _).set_far hne _).set_far hne _).set_far hne _).set_far hne _)⟩
set_option maxHeartbeats 4000000 in
set_option maxRecDepth 100000 in
theorem rFeed_128l (s t : ByteArray) (r : Nat) (w : World) (h1 : 2 ≤ s.size) (h2 : s.size ≤ 200) (hz : (s[0]'(by omega)).toNat = 128) (hl : 1030 < (t ++ (s.extract 1 s.size)).size) (ht : t.size ≤ 2000) (hB : Blk w r [.bool true, .string t] 53) :
    Calls Try.prog 28 #[.pointer (some ⟨r, 0, none⟩), .string s] w fun e w' => e = .returned (.tuple #[pieceV false ⟨#[]⟩ true, .int .i64 0]) ∧ Keep [r] w w' ∧ Blk w' r [.bool false, .string (t ++ (s.extract 1 s.size))] 53 := by
  have hrl := hB.lt
  have hne : r ≠ w.heap.size := by omega
  have hnf : w.heap.size ≠ r := by omega
  have HB1 := Lib.hid (hB.alloc (Obj.cells #[.bool false, .string ⟨#[]⟩, .int .i64 0, .bool false] 57))
  have HZ1 := Lib.hid (Blk.new w (pieceC false ⟨#[]⟩ false) 57)
  have HK1 := Lib.hid ((Keep.refl [r] w).alloc (Obj.cells #[.bool false, .string ⟨#[]⟩, .int .i64 0, .bool false] 57))
  clear hB
  have k1 : ¬ ((s.size : Int) < 2) := by omega
  have k2 : ¬ ((200 : Int) < s.size) := by omega
  have k3 : (0 : Int) < s.size := by omega
  obtain ⟨p, hp⟩ : ∃ p, p = s.extract 1 s.size := ⟨_, rfl⟩
  go_enter Try.func28, Try.ntmps28
  go_wp2_with fail
  go_quiet (fail)
  refine gen_post (fun w' => Keep [r] w w' ∧ Blk w' r [.bool true, .string t] 53 ∧ Blk w' w.heap.size (pieceC false ⟨#[]⟩ false) 57) ⟨HK1.out.drewN _, HB1.out.drewN _, HZ1.out.drewN _⟩ ?_
  clear HB1 HZ1 HK1
  rintro w2 ⟨hK2, hB2, hZ2⟩
  have hn1 : r ≠ w2.heap.size := Nat.ne_of_lt hB2.lt
  have hn2 : w.heap.size ≠ w2.heap.size := Nat.ne_of_lt hZ2.lt
  have HK2 := Lib.hid hK2; have HB2 := Lib.hid hB2; have HZ2 := Lib.hid hZ2
  clear hK2 hB2 hZ2 k1 k2 k3
  go_upto_region 5 with fail
  rw [← hp] at hl ⊢
  refine gen_world (fun W => Keep [r] w W ∧ Blk W r [.bool true, .string t] 53 ∧ Blk W w.heap.size (pieceC false ⟨#[]⟩ false) 57 ∧ Blk W w2.heap.size (pieceC false ⟨#[]⟩ false) 57) ⟨HK2.out.alloc _, HB2.out.alloc _, HZ2.out.alloc _, Blk.new w2 _ _⟩ ?_
  obtain ⟨O, hO⟩ : ∃ O, O = w2.heap.size := ⟨_, rfl⟩
  have hwO : w.heap.size ≤ O := by rw [hO]; exact HK2.out.size
  rw [← hO] at hn1 hn2 ⊢
  clear hO HK2 HB2 HZ2
  rintro w3 ⟨hK3, hB3, hZ3, hO3⟩
  have HK3 := Lib.hid hK3; have HB3 := Lib.hid hB3; have HZ3 := Lib.hid hZ3; have HO3 := Lib.hid hO3
  clear hK3 hB3 hZ3 hO3
  have b0 := HB3.out.cell 0
  have b1 := HB3.out.cell 1
  simp only [List.getElem?_cons_zero, List.getElem?_cons_succ] at b0 b1
  have f0 := HB3.out.free 0
  have f1 := HB3.out.free 1
  have z0 := HZ3.out.cell 0
  have z1 := HZ3.out.cell 1
  have z2 := HZ3.out.cell 2
  have z3 := HZ3.out.cell 3
  simp only [pieceC, List.getElem?_cons_zero, List.getElem?_cons_succ] at z0 z1 z2 z3
  have y0 := HZ3.out.free 0
  have y1 := HZ3.out.free 1
  have y2 := HZ3.out.free 2
  have y3 := HZ3.out.free 3
  have x0 := HO3.out.cell 0
  have x1 := HO3.out.cell 1
  have x2 := HO3.out.cell 2
  have x3 := HO3.out.cell 3
  simp only [pieceC, List.getElem?_cons_zero, List.getElem?_cons_succ] at x0 x1 x2 x3
  have v0 := HO3.out.free 0
  have v1 := HO3.out.free 1
  have v2 := HO3.out.free 2
  have v3 := HO3.out.free 3
  have HP := Lib.hid hp; clear hp
  have hlz : (t ++ p).size = t.size + p.size := by simp
  have hps : p.size ≤ 200 := by rw [HP.out]; simp; omega
  have hb : ¬ (9223372036854775807 : Int) < t.size + p.size := by omega
  have hl2 : (1030 : Int) < (t.size : Int) + p.size := by omega
  go_wp2_with fail
  have hp := HP.out
  subst hp
  refine ret_cell_tmp rfl w.heap.size 57 (pieceC false ⟨#[]⟩ true) rfl (((((((HZ3.out.set_far hnf _).set_far hnf _).set_far hn2 _).set 0 _).set 1 _).set 2 _).set 3 _) Try.underlying57 rfl (by kernel_rfl) rfl ?_
  exact ⟨rfl, (((((((HK3.out.setCell (p := ⟨r, 1, none⟩) (.inl (by simp)) _).setCell (p := ⟨r, 0, none⟩) (.inl (by simp)) _).setCell (p := ⟨O, 3, none⟩) (.inr hwO) _).setCell (p := ⟨w.heap.size, 0, none⟩) (.inr (Nat.le_refl _)) _).setCell (p := ⟨w.heap.size, 1, none⟩) (.inr (Nat.le_refl _)) _).setCell (p := ⟨w.heap.size, 2, none⟩) (.inr (Nat.le_refl _)) _).setCell (p := ⟨w.heap.size, 3, none⟩) (.inr (Nat.le_refl _)) _), (((((((HB3.out.set 1 _).set 0 _).set_far hn1 _).set_far hne _).set_far hne _).set_far hne _).set_far hne _)⟩
set_option maxHeartbeats 4000000 in
set_option maxRecDepth 100000 in
theorem rFeed_128s (s t : ByteArray) (r : Nat) (w : World) (h1 : 2 ≤ s.size) (h2 : s.size ≤ 200) (hz : (s[0]'(by omega)).toNat = 128) (hl : ¬ 1030 < (t ++ (s.extract 1 s.size)).size) (ht : t.size ≤ 2000) (hB : Blk w r [.bool true, .string t] 53) :
    Calls Try.prog 28 #[.pointer (some ⟨r, 0, none⟩), .string s] w fun e w' => e = .returned (.tuple #[pieceV true (t ++ (s.extract 1 s.size)) false, .int .i64 0]) ∧ Keep [r] w w' ∧ Blk w' r [.bool false, .string (t ++ (s.extract 1 s.size))] 53 := by
  have hrl := hB.lt
  have hne : r ≠ w.heap.size := by omega
  have hnf : w.heap.size ≠ r := by omega
  have HB1 := Lib.hid (hB.alloc (Obj.cells #[.bool false, .string ⟨#[]⟩, .int .i64 0, .bool false] 57))
  have HZ1 := Lib.hid (Blk.new w (pieceC false ⟨#[]⟩ false) 57)
  have HK1 := Lib.hid ((Keep.refl [r] w).alloc (Obj.cells #[.bool false, .string ⟨#[]⟩, .int .i64 0, .bool false] 57))
  clear hB
  have k1 : ¬ ((s.size : Int) < 2) := by omega
  have k2 : ¬ ((200 : Int) < s.size) := by omega
  have k3 : (0 : Int) < s.size := by omega
  obtain ⟨p, hp⟩ : ∃ p, p = s.extract 1 s.size := ⟨_, rfl⟩
  go_enter Try.func28, Try.ntmps28
  go_wp2_with fail
  go_quiet (fail)
  refine gen_post (fun w' => Keep [r] w w' ∧ Blk w' r [.bool true, .string t] 53 ∧ Blk w' w.heap.size (pieceC false ⟨#[]⟩ false) 57) ⟨HK1.out.drewN _, HB1.out.drewN _, HZ1.out.drewN _⟩ ?_
  clear HB1 HZ1 HK1
  rintro w2 ⟨hK2, hB2, hZ2⟩
  have hn1 : r ≠ w2.heap.size := Nat.ne_of_lt hB2.lt
  have hn2 : w.heap.size ≠ w2.heap.size := Nat.ne_of_lt hZ2.lt
  have HK2 := Lib.hid hK2; have HB2 := Lib.hid hB2; have HZ2 := Lib.hid hZ2
  clear hK2 hB2 hZ2 k1 k2 k3
  go_upto_region 5 with fail
  rw [← hp] at hl ⊢
  refine gen_world (fun W => Keep [r] w W ∧ Blk W r [.bool true, .string t] 53 ∧ Blk W w.heap.size (pieceC false ⟨#[]⟩ false) 57 ∧ Blk W w2.heap.size (pieceC false ⟨#[]⟩ false) 57) ⟨HK2.out.alloc _, HB2.out.alloc _, HZ2.out.alloc _, Blk.new w2 _ _⟩ ?_
  obtain ⟨O, hO⟩ : ∃ O, O = w2.heap.size := ⟨_, rfl⟩
  have hwO : w.heap.size ≤ O := by rw [hO]; exact HK2.out.size
  rw [← hO] at hn1 hn2 ⊢
  clear hO HK2 HB2 HZ2
  rintro w3 ⟨hK3, hB3, hZ3, hO3⟩
  have HK3 := Lib.hid hK3; have HB3 := Lib.hid hB3; have HZ3 := Lib.hid hZ3; have HO3 := Lib.hid hO3
  clear hK3 hB3 hZ3 hO3
  have b0 := HB3.out.cell 0
  have b1 := HB3.out.cell 1
  simp only [List.getElem?_cons_zero, List.getElem?_cons_succ] at b0 b1
  have f0 := HB3.out.free 0
  have f1 := HB3.out.free 1
  have z0 := HZ3.out.cell 0
  have z1 := HZ3.out.cell 1
  have z2 := HZ3.out.cell 2
  have z3 := HZ3.out.cell 3
  simp only [pieceC, List.getElem?_cons_zero, List.getElem?_cons_succ] at z0 z1 z2 z3
  have y0 := HZ3.out.free 0
  have y1 := HZ3.out.free 1
  have y2 := HZ3.out.free 2
  have y3 := HZ3.out.free 3
  have x0 := HO3.out.cell 0
  have x1 := HO3.out.cell 1
  have x2 := HO3.out.cell 2
  have x3 := HO3.out.cell 3
  simp only [pieceC, List.getElem?_cons_zero, List.getElem?_cons_succ] at x0 x1 x2 x3
  have v0 := HO3.out.free 0
  have v1 := HO3.out.free 1
  have v2 := HO3.out.free 2
  have v3 := HO3.out.free 3
  have HP := Lib.hid hp; clear hp
  have hlz : (t ++ p).size = t.size + p.size := by simp
  have hps : p.size ≤ 200 := by rw [HP.out]; simp; omega
  have hb : ¬ (9223372036854775807 : Int) < t.size + p.size := by omega
  have hl2 : ¬ (1030 : Int) < (t.size : Int) + p.size := by omega
  go_wp2_with fail
  go_region
  refine gen_post (fun W => Keep [r] w W ∧ Blk W r [.bool false, .string (t ++ p)] 53 ∧ Blk W w.heap.size (pieceC false ⟨#[]⟩ false) 57 ∧ Blk W O (pieceC true (t ++ p) false) 57) ⟨((((HK3.out.setCell (p := ⟨r, 1, none⟩) (.inl (by simp)) _).setCell (p := ⟨O, 0, none⟩) (.inr hwO) _).setCell (p := ⟨O, 1, none⟩) (.inr hwO) _).setCell (p := ⟨r, 0, none⟩) (.inl (by simp)) _).drew, ((((HB3.out.set 1 _).set_far hn1 _).set_far hn1 _).set 0 _).drew, ((((HZ3.out.set_far hnf _).set_far hn2 _).set_far hn2 _).set_far hnf _).drew, ((((HO3.out.set_far (Ne.symm hn1) _).set 0 _).set 1 _).set_far (Ne.symm hn1) _).drew⟩ ?_
  clear b0 b1 f0 f1 z0 z1 z2 z3 y0 y1 y2 y3 x0 x1 x2 x3 v0 v1 v2 v3 HK3 HB3 HZ3 HO3
  rintro w4 ⟨hK3, hB3, hZ3, hO3⟩
  have HK3 := Lib.hid hK3; have HB3 := Lib.hid hB3; have HZ3 := Lib.hid hZ3; have HO3 := Lib.hid hO3
  clear hK3 hB3 hZ3 hO3
  have b0 := HB3.out.cell 0
  have b1 := HB3.out.cell 1
  simp only [List.getElem?_cons_zero, List.getElem?_cons_succ] at b0 b1
  have f0 := HB3.out.free 0
  have f1 := HB3.out.free 1
  have z0 := HZ3.out.cell 0
  have z1 := HZ3.out.cell 1
  have z2 := HZ3.out.cell 2
  have z3 := HZ3.out.cell 3
  simp only [pieceC, List.getElem?_cons_zero, List.getElem?_cons_succ] at z0 z1 z2 z3
  have y0 := HZ3.out.free 0
  have y1 := HZ3.out.free 1
  have y2 := HZ3.out.free 2
  have y3 := HZ3.out.free 3
  have x0 := HO3.out.cell 0
  have x1 := HO3.out.cell 1
  have x2 := HO3.out.cell 2
  have x3 := HO3.out.cell 3
  simp only [pieceC, List.getElem?_cons_zero, List.getElem?_cons_succ] at x0 x1 x2 x3
  go_wp2_with fail
  have hp := HP.out
  subst hp
  refine ret_cell_tmp rfl w.heap.size 57 (pieceC true (t ++ (s.extract 1 s.size)) false) rfl ((((HZ3.out.set 0 _).set 1 _).set 2 _).set 3 _) Try.underlying57 rfl (by kernel_rfl) rfl ?_
  exact ⟨rfl, ((((HK3.out.setCell (p := ⟨w.heap.size, 0, none⟩) (.inr (Nat.le_refl _)) _).setCell (p := ⟨w.heap.size, 1, none⟩) (.inr (Nat.le_refl _)) _).setCell (p := ⟨w.heap.size, 2, none⟩) (.inr (Nat.le_refl _)) _).setCell (p := ⟨w.heap.size, 3, none⟩) (.inr (Nat.le_refl _)) _), ((((HB3.out.set_far hne _).set_far hne _).set_far hne _).set_far hne _)⟩
end Go.Proofs.Ytebgehmgjafblaa
