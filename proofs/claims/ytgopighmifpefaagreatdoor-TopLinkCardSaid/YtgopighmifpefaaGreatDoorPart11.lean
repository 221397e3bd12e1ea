/- What is proved here: a part of the proof of TopLink (texts Ct5 Ct6 Ct7). No condition. -/
import Derived.Deep.RegionWith
import Derived.Test.YtgopighmifpefaaGreatDoorPart04
import Derived.Test.YtgopighmifpefaaGreatDoorPart10
set_option linter.unusedVariables false
set_option linter.unusedSimpArgs false
namespace Go.Proofs.YtgopighmifpefaaGreatDoor
section
open Go.RowKit
theorem st_x0 : ∀ a : Nat, a < 256 → bits .xor .u8 (a : Int) 235 = ((a ^^^ 235 : Nat) : Int) ∧ bits .xor .u8 (a : Int) 144 = ((a ^^^ 144 : Nat) : Int) ∧ a ^^^ 235 < 256 ∧ a ^^^ 144 < 256 := by decide +kernel
theorem or_nat16 (a b k : Nat) (hb : b < 2 ^ k) : a * 2 ^ k ||| b = a * 2 ^ k + b := by
  rw [← Nat.shiftLeft_eq, Nat.shiftLeft_add_eq_or_of_lt hb]
theorem or_u16 (a b : Nat) (ha : a < 65536) (hb : b < 65536) : bits .or .u16 (a : Int) (b : Int) = ((a ||| b : Nat) : Int) := by
  have e1 : ((a : Nat) : Int) = w16 (BitVec.ofNat 16 a) := by rw [w16_ofNat]; omega
  have e2 : ((b : Nat) : Int) = w16 (BitVec.ofNat 16 b) := by rw [w16_ofNat]; omega
  rw [e1, e2, w16_or]
  have : BitVec.ofNat 16 a ||| BitVec.ofNat 16 b = BitVec.ofNat 16 (a ||| b) := by
    apply BitVec.eq_of_toNat_eq
    simp only [BitVec.toNat_or, BitVec.toNat_ofNat]
    rw [Nat.mod_eq_of_lt (show a < 2 ^ 16 by omega), Nat.mod_eq_of_lt (show b < 2 ^ 16 by omega), Nat.mod_eq_of_lt (Nat.or_lt_two_pow (show a < 2 ^ 16 by omega) (show b < 2 ^ 16 by omega))]
  rw [this, w16_ofNat, Nat.mod_eq_of_lt]
  exact Nat.or_lt_two_pow (n := 16) (by omega) (by omega)
theorem and_u16 (a b : Nat) (ha : a < 65536) (hb : b < 65536) : bits .and .u16 (a : Int) (b : Int) = ((a &&& b : Nat) : Int) := by
  have e1 : ((a : Nat) : Int) = w16 (BitVec.ofNat 16 a) := by rw [w16_ofNat]; omega
  have e2 : ((b : Nat) : Int) = w16 (BitVec.ofNat 16 b) := by rw [w16_ofNat]; omega
  rw [e1, e2, w16_and]
  have : BitVec.ofNat 16 a &&& BitVec.ofNat 16 b = BitVec.ofNat 16 (a &&& b) := by
    apply BitVec.eq_of_toNat_eq
    simp only [BitVec.toNat_and, BitVec.toNat_ofNat]
    rw [Nat.mod_eq_of_lt (show a < 2 ^ 16 by omega), Nat.mod_eq_of_lt (show b < 2 ^ 16 by omega), Nat.mod_eq_of_lt (Nat.and_lt_two_pow (n := 16) _ (show b < 2 ^ 16 by omega))]
  rw [this, w16_ofNat, Nat.mod_eq_of_lt]
  exact Nat.and_lt_two_pow (n := 16) _ (by omega)
theorem st_or (X Y : Nat) (hx : X < 256) (hy : Y < 256) : bits .or .u16 ((X : Int) * 256) (Y : Int) = ((X * 256 + Y : Nat) : Int) := by
  have e : (X : Int) * 256 = ((X * 256 : Nat) : Int) := by omega
  have h := or_nat16 X Y 8 (by omega)
  simp only [Nat.reducePow] at h
  rw [e, or_u16 _ _ (by omega) (by omega), h]
theorem st_and (W : Nat) (h : W < 65536) : bits .and .u16 (W : Int) (IntKind.u16.wrap ((W : Int) - 1)) = ((W &&& (W - 1) : Nat) : Int) := by
  have hw : ∀ n : Int, IntKind.u16.wrap n = n % 65536 := fun n => by simp [IntKind.wrap, IntKind.bits, IntKind.signed]
  rw [hw]
  rcases Nat.eq_zero_or_pos W with e | e
  · subst e; decide
  · have e1 : ((W : Int) - 1) % 65536 = ((W - 1 : Nat) : Int) := by omega
    rw [e1, and_u16 _ _ h (by omega)]
set_option maxHeartbeats 4000000 in
set_option maxRecDepth 100000 in
theorem search1_begin (tk dv bv bg fv : Value) (ls b : UInt8) (P : Nat) (w : World) (hs : startN ls b = true) (hG : Gl w) (hB : Blk w P [tk, .bool true, .int .u8 (ls.toNat : Int), dv, bv, bg, fv] 110) :
    Calls Tryz.prog 47 #[.pointer (some ⟨P, 0, none⟩), .int .u8 (b.toNat : Int)] w fun e w' => e = .returned (.tuple #[]) ∧ Keep [P] w w' ∧
      Blk w' P [.func (.func 87) #[] #[], .bool true, .int .u8 (ls.toNat : Int), dv, bv, .bool true, fv] 110 := by
  have HB := Lib.hid hB; clear hB
  have g0 := hG.s0; have g1 := hG.s1
  have HG := Lib.hid hG; clear hG
  have c0 := HB.out.cell 0
  have c1 := HB.out.cell 1
  have c2 := HB.out.cell 2
  have c3 := HB.out.cell 3
  have c4 := HB.out.cell 4
  have c5 := HB.out.cell 5
  have c6 := HB.out.cell 6
  simp only [List.getElem?_cons_zero, List.getElem?_cons_succ] at c0 c1 c2 c3 c4 c5 c6
  have f0 := HB.out.free 0
  have f1 := HB.out.free 1
  have f2 := HB.out.free 2
  have f3 := HB.out.free 3
  have f4 := HB.out.free 4
  have f5 := HB.out.free 5
  have f6 := HB.out.free 6
  obtain ⟨a, ha⟩ : ∃ a, a = ls.toNat := ⟨_, rfl⟩
  obtain ⟨d, hd⟩ : ∃ d, d = b.toNat := ⟨_, rfl⟩
  have ha1 : a < 256 := by rw [ha]; exact ls.toNat_lt
  have hd1 : d < 256 := by rw [hd]; exact b.toNat_lt
  obtain ⟨X, hX⟩ : ∃ X, X = a ^^^ 235 := ⟨_, rfl⟩
  obtain ⟨Y, hY⟩ : ∃ Y, Y = d ^^^ 144 := ⟨_, rfl⟩
  have x1 := (st_x0 a ha1).1
  have x2 := (st_x0 d hd1).2.1
  have x3 : X < 256 := by rw [hX]; exact (st_x0 a ha1).2.2.1
  have x4 : Y < 256 := by rw [hY]; exact (st_x0 d hd1).2.2.2
  rw [← hX] at x1
  rw [← hY] at x2
  rw [← ha] at c2
  have hq : ((((X * 256 + Y : Nat) &&& ((X * 256 + Y : Nat) - 1) : Nat) : Int) == 0) = true := by
    rw [← hs]
    unfold startN
    rw [← ha, ← hd, ← hX, ← hY]
    show _ = (((X * 256 + Y) &&& (X * 256 + Y - 1)) == 0)
    generalize ((X * 256 + Y) &&& (X * 256 + Y - 1)) = z
    cases e : z == 0
    · simp at e; simp; omega
    · simp at e; simp; omega
  have HQ := Lib.hid hq
  clear hq hs
  have HA := Lib.hid ha; have HD := Lib.hid hd
  rw [← hd]
  clear ha hd hX hY
  go_enter Tryz.func47, Tryz.ntmps47
  go_upto_region 0 with fail
  go_quiet (fail)
  rw [st_or X Y x3 x4]
  obtain ⟨V, hV⟩ : ∃ V, V = X * 256 + Y := ⟨_, rfl⟩
  rw [← hV]
  have hV1 : V < 65536 := by omega
  have q1 := st_and V hV1
  have q2 := HQ.out
  rw [← hV] at q2
  obtain ⟨z, hz⟩ : ∃ z, z = V &&& (V - 1) := ⟨_, rfl⟩
  rw [← hz] at q1 q2
  clear hz HQ
  rw [HA.out] at c2
  refine post_any (fun W => Keep [P] w W ∧ Blk W P [tk, .bool true, .int .u8 (ls.toNat : Int), dv, bv, bg, fv] 110) ⟨(Keep.refl [P] w).drewN _, HB.out.drewN _⟩ ?_
  clear HG g0 g1 c0 c1 c2 c3 c4 c5 c6 f0 f1 f2 f3 f4 f5 f6 hV x1 x2 x3 x4 hV1 ha1 hd1 HB
  rintro W ⟨hK, hB⟩
  have HK := Lib.hid hK; have HB := Lib.hid hB; clear hK hB
  have c0 := HB.out.cell 0
  have c1 := HB.out.cell 1
  have c2 := HB.out.cell 2
  have c3 := HB.out.cell 3
  have c4 := HB.out.cell 4
  have c5 := HB.out.cell 5
  have c6 := HB.out.cell 6
  simp only [List.getElem?_cons_zero, List.getElem?_cons_succ] at c0 c1 c2 c3 c4 c5 c6
  have f0 := HB.out.free 0
  have f1 := HB.out.free 1
  have f2 := HB.out.free 2
  have f3 := HB.out.free 3
  have f4 := HB.out.free 4
  have f5 := HB.out.free 5
  have f6 := HB.out.free 6
  have HC := Lib.hid (begin_fn _ _ _ _ _ _ _ P W HB.out)
  go_wp2_with fail
  refine HC.out.mono ?_
  rintro e W2 ⟨rfl, hK2, hB2⟩
  go_wp2_with fail
  exact bodyPost_ret (v := .tuple #[]) (by simp [results, Tryz.results47, go_sem]) rfl ⟨rfl, HK.out.trans hK2, hB2⟩
set_option maxHeartbeats 4000000 in
set_option maxRecDepth 100000 in
theorem search1_far (tk dv bv bg fv : Value) (ls b : UInt8) (P : Nat) (w : World) (hs : startN ls b = false) (hG : Gl w) (hB : Blk w P [tk, .bool true, .int .u8 (ls.toNat : Int), dv, bv, bg, fv] 110) :
    Calls Tryz.prog 47 #[.pointer (some ⟨P, 0, none⟩), .int .u8 (b.toNat : Int)] w fun e w' => e = .returned (.tuple #[]) ∧ Keep [P] w w' ∧
      Blk w' P [tk, .bool true, .int .u8 (b.toNat : Int), dv, bv, bg, fv] 110 := by
  have HB := Lib.hid hB; clear hB
  have g0 := hG.s0; have g1 := hG.s1
  have HG := Lib.hid hG; clear hG
  have c0 := HB.out.cell 0
  have c1 := HB.out.cell 1
  have c2 := HB.out.cell 2
  have c3 := HB.out.cell 3
  have c4 := HB.out.cell 4
  have c5 := HB.out.cell 5
  have c6 := HB.out.cell 6
  simp only [List.getElem?_cons_zero, List.getElem?_cons_succ] at c0 c1 c2 c3 c4 c5 c6
  have f0 := HB.out.free 0
  have f1 := HB.out.free 1
  have f2 := HB.out.free 2
  have f3 := HB.out.free 3
  have f4 := HB.out.free 4
  have f5 := HB.out.free 5
  have f6 := HB.out.free 6
  obtain ⟨a, ha⟩ : ∃ a, a = ls.toNat := ⟨_, rfl⟩
  obtain ⟨d, hd⟩ : ∃ d, d = b.toNat := ⟨_, rfl⟩
  have ha1 : a < 256 := by rw [ha]; exact ls.toNat_lt
  have hd1 : d < 256 := by rw [hd]; exact b.toNat_lt
  obtain ⟨X, hX⟩ : ∃ X, X = a ^^^ 235 := ⟨_, rfl⟩
  obtain ⟨Y, hY⟩ : ∃ Y, Y = d ^^^ 144 := ⟨_, rfl⟩
  have x1 := (st_x0 a ha1).1
  have x2 := (st_x0 d hd1).2.1
  have x3 : X < 256 := by rw [hX]; exact (st_x0 a ha1).2.2.1
  have x4 : Y < 256 := by rw [hY]; exact (st_x0 d hd1).2.2.2
  rw [← hX] at x1
  rw [← hY] at x2
  rw [← ha] at c2
  have hq : ((((X * 256 + Y : Nat) &&& ((X * 256 + Y : Nat) - 1) : Nat) : Int) == 0) = false := by
    rw [← hs]
    unfold startN
    rw [← ha, ← hd, ← hX, ← hY]
    show _ = (((X * 256 + Y) &&& (X * 256 + Y - 1)) == 0)
    generalize ((X * 256 + Y) &&& (X * 256 + Y - 1)) = z
    cases e : z == 0
    · simp at e; simp; omega
    · simp at e; simp; omega
  have HQ := Lib.hid hq
  clear hq hs
  have HA := Lib.hid ha; have HD := Lib.hid hd
  rw [← hd]
  clear ha hd hX hY
  go_enter Tryz.func47, Tryz.ntmps47
  go_upto_region 0 with fail
  go_quiet (fail)
  rw [st_or X Y x3 x4]
  obtain ⟨V, hV⟩ : ∃ V, V = X * 256 + Y := ⟨_, rfl⟩
  rw [← hV]
  have hV1 : V < 65536 := by omega
  have q1 := st_and V hV1
  have q2 := HQ.out
  rw [← hV] at q2
  obtain ⟨z, hz⟩ : ∃ z, z = V &&& (V - 1) := ⟨_, rfl⟩
  rw [← hz] at q1 q2
  clear hz HQ
  rw [HA.out] at c2
  refine post_any (fun W => Keep [P] w W ∧ Blk W P [tk, .bool true, .int .u8 (ls.toNat : Int), dv, bv, bg, fv] 110) ⟨(Keep.refl [P] w).drewN _, HB.out.drewN _⟩ ?_
  clear HG g0 g1 c0 c1 c2 c3 c4 c5 c6 f0 f1 f2 f3 f4 f5 f6 hV x1 x2 x3 x4 hV1 ha1 hd1 HB
  rintro W ⟨hK, hB⟩
  have HK := Lib.hid hK; have HB := Lib.hid hB; clear hK hB
  have c0 := HB.out.cell 0
  have c1 := HB.out.cell 1
  have c2 := HB.out.cell 2
  have c3 := HB.out.cell 3
  have c4 := HB.out.cell 4
  have c5 := HB.out.cell 5
  have c6 := HB.out.cell 6
  simp only [List.getElem?_cons_zero, List.getElem?_cons_succ] at c0 c1 c2 c3 c4 c5 c6
  have f0 := HB.out.free 0
  have f1 := HB.out.free 1
  have f2 := HB.out.free 2
  have f3 := HB.out.free 3
  have f4 := HB.out.free 4
  have f5 := HB.out.free 5
  have f6 := HB.out.free 6
  have HS := Lib.hid ((HB.out.set 1 (.bool true)).set 2 (.int .u8 (d : Int)))
  have HK2 := Lib.hid (((HK.out).setCell (p := ⟨P, 1, none⟩) (.inl (by simp)) (.bool true)).setCell (p := ⟨P, 2, none⟩) (.inl (by simp)) (.int .u8 (d : Int)))
  go_wp2_with fail
  go_end0
  exact ⟨rfl, HK2.out, HS.out⟩
set_option maxHeartbeats 4000000 in
set_option maxRecDepth 100000 in
theorem search1_new (tk dv bv bg fv : Value) (ls b : UInt8) (P : Nat) (w : World) (hG : Gl w) (hB : Blk w P [tk, .bool false, .int .u8 (ls.toNat : Int), dv, bv, bg, fv] 110) :
    Calls Tryz.prog 47 #[.pointer (some ⟨P, 0, none⟩), .int .u8 (b.toNat : Int)] w fun e w' => e = .returned (.tuple #[]) ∧ Keep [P] w w' ∧
      Blk w' P [tk, .bool true, .int .u8 (b.toNat : Int), dv, bv, bg, fv] 110 := by
  have HB := Lib.hid hB; clear hB
  have g0 := hG.s0; have g1 := hG.s1
  have HG := Lib.hid hG; clear hG
  have c0 := HB.out.cell 0
  have c1 := HB.out.cell 1
  have c2 := HB.out.cell 2
  have c3 := HB.out.cell 3
  have c4 := HB.out.cell 4
  have c5 := HB.out.cell 5
  have c6 := HB.out.cell 6
  simp only [List.getElem?_cons_zero, List.getElem?_cons_succ] at c0 c1 c2 c3 c4 c5 c6
  have f0 := HB.out.free 0
  have f1 := HB.out.free 1
  have f2 := HB.out.free 2
  have f3 := HB.out.free 3
  have f4 := HB.out.free 4
  have f5 := HB.out.free 5
  have f6 := HB.out.free 6
  obtain ⟨a, ha⟩ : ∃ a, a = ls.toNat := ⟨_, rfl⟩
  obtain ⟨d, hd⟩ : ∃ d, d = b.toNat := ⟨_, rfl⟩
  have ha1 : a < 256 := by rw [ha]; exact ls.toNat_lt
  have hd1 : d < 256 := by rw [hd]; exact b.toNat_lt
  obtain ⟨X, hX⟩ : ∃ X, X = a ^^^ 235 := ⟨_, rfl⟩
  obtain ⟨Y, hY⟩ : ∃ Y, Y = d ^^^ 144 := ⟨_, rfl⟩
  have x1 := (st_x0 a ha1).1
  have x2 := (st_x0 d hd1).2.1
  have x3 : X < 256 := by rw [hX]; exact (st_x0 a ha1).2.2.1
  have x4 : Y < 256 := by rw [hY]; exact (st_x0 d hd1).2.2.2
  rw [← hX] at x1
  rw [← hY] at x2
  rw [← ha] at c2
  have HA := Lib.hid ha; have HD := Lib.hid hd
  rw [← hd]
  clear ha hd hX hY
  go_enter Tryz.func47, Tryz.ntmps47
  go_upto_region 0 with fail
  go_quiet (fail)
  rw [st_or X Y x3 x4]
  obtain ⟨V, hV⟩ : ∃ V, V = X * 256 + Y := ⟨_, rfl⟩
  rw [← hV]
  have hV1 : V < 65536 := by omega
  have q1 := st_and V hV1
  clear q1
  rw [HA.out] at c2
  refine post_any (fun W => Keep [P] w W ∧ Blk W P [tk, .bool false, .int .u8 (ls.toNat : Int), dv, bv, bg, fv] 110) ⟨(Keep.refl [P] w).drewN _, HB.out.drewN _⟩ ?_
  clear HG g0 g1 c0 c1 c2 c3 c4 c5 c6 f0 f1 f2 f3 f4 f5 f6 hV x1 x2 x3 x4 hV1 ha1 hd1 HB
  rintro W ⟨hK, hB⟩
  have HK := Lib.hid hK; have HB := Lib.hid hB; clear hK hB
  have c0 := HB.out.cell 0
  have c1 := HB.out.cell 1
  have c2 := HB.out.cell 2
  have c3 := HB.out.cell 3
  have c4 := HB.out.cell 4
  have c5 := HB.out.cell 5
  have c6 := HB.out.cell 6
  simp only [List.getElem?_cons_zero, List.getElem?_cons_succ] at c0 c1 c2 c3 c4 c5 c6
  have f0 := HB.out.free 0
  have f1 := HB.out.free 1
  have f2 := HB.out.free 2
  have f3 := HB.out.free 3
  have f4 := HB.out.free 4
  have f5 := HB.out.free 5
  have f6 := HB.out.free 6
  have HS := Lib.hid ((HB.out.set 1 (.bool true)).set 2 (.int .u8 (d : Int)))
  have HK2 := Lib.hid (((HK.out).setCell (p := ⟨P, 1, none⟩) (.inl (by simp)) (.bool true)).setCell (p := ⟨P, 2, none⟩) (.inl (by simp)) (.int .u8 (d : Int)))
  go_wp2_with fail
  go_end0
  exact ⟨rfl, HK2.out, HS.out⟩
theorem search1_any (tk dv bv bg fv : Value) (kn : Bool) (ls b : UInt8) (P : Nat) (w : World) (hG : Gl w) (hB : Blk w P [tk, .bool kn, .int .u8 (ls.toNat : Int), dv, bv, bg, fv] 110) :
    Calls Tryz.prog 47 #[.pointer (some ⟨P, 0, none⟩), .int .u8 (b.toNat : Int)] w fun e w' => e = .returned (.tuple #[]) ∧ Keep [P] w w' ∧
      Blk w' P (if (kn && startN ls b) = true then [.func (.func 87) #[] #[], .bool kn, .int .u8 (ls.toNat : Int), dv, bv, .bool true, fv] else [tk, .bool true, .int .u8 (b.toNat : Int), dv, bv, bg, fv]) 110 := by
  cases kn with
  | false => exact search1_new tk dv bv bg fv ls b P w hG hB
  | true =>
    cases hs : startN ls b with
    | true => exact search1_begin tk dv bv bg fv ls b P w hs hG hB
    | false => exact search1_far tk dv bv bg fv ls b P w hs hG hB
end
section
open Go.RowKit
/-- A row of bytes. -/
def BRow (W : World) (v : Value) (l : List UInt8) : Prop := QRow W 0 5 1 v l.length (l.map vb)
theorem brow_nil (W : World) : BRow W (.slice none 0 0) [] := q_nil _ _ _ _
theorem brow_form {W : World} {v : Value} {l : List UInt8} (h : BRow W v l) : ∃ a cap, v = .slice a l.length cap := by
  obtain ⟨a, cap, e, _⟩ := q_form h
  exact ⟨a, cap, e⟩
theorem brow_string {W : World} {v : Value} {l : List UInt8} (h : BRow W v l) : (convert 97 9 v).run Tryz.prog W = .ok (.string ⟨l.toArray⟩) W := by
  rcases Nat.eq_zero_or_pos l.length with e | e
  · have hl : l = [] := List.eq_nil_of_length_eq_zero e
    subst hl
    obtain ⟨a, cap, rfl⟩ := brow_form h
    cases a with
    | none => rw [List.length_nil, run_convert_bytes_string W 97 9 5 none 0 cap Tryz.underlying97 Tryz.underlying5 Tryz.underlying9]; rfl
    | some ad =>
      exact run_convert_bytes_back W 97 9 5 ad cap [] Tryz.underlying97 Tryz.underlying5 Tryz.underlying9 (fun j hj => absurd hj (by simp))
  · obtain ⟨g, off, cap, rfl, -, -, -, hc, -⟩ := q_cells h e
    exact run_convert_bytes_back W 97 9 5 ⟨g, off, none⟩ cap l Tryz.underlying97 Tryz.underlying5 Tryz.underlying9 (fun j hj => by
      have hadd : (⟨g, off, none⟩ : Addr).add j = ⟨g, off + j, none⟩ := by unfold Addr.add; split <;> simp_all
      rw [hadd]; exact hc j _ (by simp [hj, vb]))
theorem brow_upto0 {W : World} {v : Value} {l : List UInt8} (h : BRow W v l) : ∃ v', (∀ W, (Instr.slice 97 v none (some (.int .i64 0)) none).run Tryz.prog W = .ok v' W) ∧ BRow W v' [] ∧ v'.ownBlock = v.ownBlock := by
  obtain ⟨i0, hi, hz0, hz1, hz2⟩ := info_parts info_u8
  obtain ⟨v', h1, h2, h3⟩ := q_upto (P := Tryz.prog) 97 i0 Tryz.underlying97 hi hz1 h .i64 0 (Nat.zero_le _)
  exact ⟨v', h1, by unfold BRow; simpa using h2, h3⟩
/-- A byte is appended. -/
theorem append_byte_q {ops : Array Oper} {rest : List Oper} {o : Oper} {a : Act} {Q : Exit → Act → World → Prop} (w : World) (hgd : o.guard = none) (s x : Operand)
    (ho : o.op = .call { callee := .builtin .append, args := #[s, x], argTypes := #[97, 97] })
    (v : Value) (l : List UInt8) (hs : a.eval s = v) (hrow : BRow w v l) (g : Nat) (c : UInt8) (hx : a.eval x = .slice (some ⟨g, 0, none⟩) 1 1) (hc : w.cell? ⟨g, 0, none⟩ = some (vb c))
    (hlen : l.length ≤ 1000000)
    (h : ∀ v' w', BRow w' v' (l ++ [c]) → Keep v.ownBlock.toList w w' → (v'.ownBlock = v.ownBlock ∨ v'.ownBlock = some w.heap.size) → wpList Tryz.prog ops Q rest (a.put o.dst v') w') : wpList Tryz.prog ops Q (o :: rest) a w := by
  obtain ⟨i0, hi, hz0, hz1, hz2⟩ := info_parts info_u8
  refine wpList_append_q w hgd s x 97 5 1 1 i0 (.int .u8 0) ho Tryz.underlying97 hi hz0 rfl hz1 hz2 0 v l.length (l.map vb) hs hrow g 0 1 1 [vb c] hx rfl (fun u hu => vb_one [c] u hu) (fun j u hj => ?_) (by omega) (by unfold maxLen; omega) (Nat.zero_le _) (fun v' w' h1 h2 h3 => h v' w' ?_ h2 h3)
  · cases j with
    | zero => simp at hj; subst hj; exact hc
    | succ j => simp at hj
  · have e : (l ++ [c]).map vb = l.map vb ++ [vb c] := by simp
    unfold BRow
    rw [e, List.length_append]
    exact h1
/-- A string is appended. -/
theorem append_string_q {ops : Array Oper} {rest : List Oper} {o : Oper} {a : Act} {Q : Exit → Act → World → Prop} (w : World) (hgd : o.guard = none) (s x : Operand)
    (ho : o.op = .call { callee := .builtin .append, args := #[s, x], argTypes := #[97, 9] })
    (v : Value) (l : List UInt8) (hs : a.eval s = v) (hrow : BRow w v l) (b : ByteArray) (hx : a.eval x = .string b)
    (hlen : l.length + b.size ≤ 1000000)
    (h : ∀ v' w', BRow w' v' (l ++ b.data.toList) → Keep v.ownBlock.toList w w' → (v'.ownBlock = v.ownBlock ∨ v'.ownBlock = some w.heap.size) → wpList Tryz.prog ops Q rest (a.put o.dst v') w') : wpList Tryz.prog ops Q (o :: rest) a w := by
  obtain ⟨i0, hi, hz0, hz1, hz2⟩ := info_parts info_u8
  refine wpList_plain hgd fun K hK => ?_
  have hfs := firsts_string (P := Tryz.prog) (w := w) b
  have hbl : b.data.toList.length = b.size := by simp
  obtain ⟨v', w', hr, h2, h3, h4⟩ := run_append_q (P := Tryz.prog) w 0 97 9 o.type 5 1 1 i0 (.int .u8 0) _ Tryz.underlying97 Tryz.underlying9 (.inl rfl) hi hz0 rfl hz1 hz2 v l.length (l.map vb) hrow (.string b) b.size (b.data.toList.map vb) (by simp) (vb_one _) (by simp [Builtin.lenOf]) (fun w' hw' => by have := hfs w' hw'; rw [hbl] at this; exact this) (by omega) (by unfold maxLen; omega) (Nat.zero_le _)
  unfold Oper.wp execOp
  simp only [ho, resolve, invoke, builtin, Sem.run_bind, Sem.run_pure, Result.andThen_ok, List.map_toArray, List.map_cons, List.map_nil, hs, hx, hr]
  refine hK _ _ (h v' w' ?_ h3 h4)
  have e : (l ++ b.data.toList).map vb = l.map vb ++ b.data.toList.map vb := by simp
  unfold BRow
  rw [e, List.length_append, hbl]
  exact h2
/-- The parser s in memory. -/
structure PM (W : World) (P : Nat) (dv kv fv : Value) (s : Ps) : Prop where
  blk : Blk W P (psCells dv kv fv s) 110
  data : BRow W dv s.data
  block : BRow W kv s.block
  found : QRow W 0 9 1 fv s.found.length (stRow s.found)
  apart : [bv P, dv, kv, fv].Pairwise Far
theorem PM.far {W : World} {P : Nat} {dv kv fv : Value} {s : Ps} (h : PM W P dv kv fv s) : Far (bv P) dv ∧ Far (bv P) kv ∧ Far (bv P) fv ∧ Far dv kv ∧ Far dv fv ∧ Far kv fv := by
  obtain ⟨h1, h0⟩ := List.pairwise_cons.1 h.apart
  obtain ⟨h2, h0⟩ := List.pairwise_cons.1 h0
  obtain ⟨h3, _⟩ := List.pairwise_cons.1 h0
  exact ⟨h1 _ (by simp), h1 _ (by simp), h1 _ (by simp), h2 _ (by simp), h2 _ (by simp), h3 _ (by simp)⟩
theorem PM.of {W : World} {P : Nat} {dv kv fv : Value} {s : Ps} (h0 : Blk W P (psCells dv kv fv s) 110) (h1 : BRow W dv s.data) (h2 : BRow W kv s.block) (h3 : QRow W 0 9 1 fv s.found.length (stRow s.found))
    (a1 : Far (bv P) dv) (a2 : Far (bv P) kv) (a3 : Far (bv P) fv) (a4 : Far dv kv) (a5 : Far dv fv) (a6 : Far kv fv) : PM W P dv kv fv s :=
  ⟨h0, h1, h2, h3, by simp only [List.pairwise_cons, List.mem_cons, List.not_mem_nil, or_false, forall_eq_or_imp, forall_eq, false_implies, implies_true, List.Pairwise.nil, and_true]; exact ⟨⟨a1, a2, a3⟩, ⟨a4, a5⟩, a6⟩⟩
theorem brow_lt {W : World} {v : Value} {l : List UInt8} (h : BRow W v l) : ∀ k, v.ownBlock = some k → k < W.heap.size := fun k hk => (q_lt h k hk).2
section
variable {W W' : World} {P : Nat} {dv kv fv v' : Value} {s : Ps}
theorem PM.below (h : PM W P dv kv fv s) (k : Below W.heap.size W W') : PM W' P dv kv fv s :=
  ⟨h.blk.below k h.blk.lt, q_below h.data k (Nat.le_refl _), q_below h.block k (Nat.le_refl _), q_below h.found k (Nat.le_refl _), h.apart⟩
theorem PM.keep {S : List Nat} (h : PM W P dv kv fv s) (k : Keep S W W') (h0 : P ∉ S) (h1 : ∀ g, dv.ownBlock = some g → g ∉ S) (h2 : ∀ g, kv.ownBlock = some g → g ∉ S) (h3 : ∀ g, fv.ownBlock = some g → g ∉ S) : PM W' P dv kv fv s :=
  ⟨h.blk.keep k h0, q_keep h.data k h1, q_keep h.block k h2, q_keep h.found k h3, h.apart⟩
theorem PM.lt (h : PM W P dv kv fv s) : ∀ k, (bv P).ownBlock = some k → k < W.heap.size := by
  intro k hk
  have e : P = k := Option.some.inj hk
  rw [← e]; exact h.blk.lt
/-- The block has changed. -/
theorem PM.setB (h : PM W P dv kv fv s) {l : List UInt8} (k : Keep (P :: kv.ownBlock.toList) W W') (hm : Mv W kv v') (hQ : BRow W' v' l) (hB : Blk W' P (psCells dv v' fv { s with block := l }) 110) : PM W' P dv v' fv { s with block := l } := by
  obtain ⟨a1, a2, a3, a4, a5, a6⟩ := h.far
  exact PM.of hB (q_keep h.data k (row_far a1 a4.symm)) hQ (q_keep h.found k (row_far a3 a6)) a1 (mv_ne a2 hm h.lt) a3 (mv_ne a4 hm (brow_lt h.data)) a5 (mv_ne' a6 hm (fun k hk => (q_lt h.found k hk).2))
/-- The data have changed. -/
theorem PM.setD (h : PM W P dv kv fv s) {l : List UInt8} (k : Keep (P :: dv.ownBlock.toList) W W') (hm : Mv W dv v') (hQ : BRow W' v' l) (hB : Blk W' P (psCells v' kv fv { s with data := l }) 110) : PM W' P v' kv fv { s with data := l } := by
  obtain ⟨a1, a2, a3, a4, a5, a6⟩ := h.far
  exact PM.of hB hQ (q_keep h.block k (row_far a2 a4)) (q_keep h.found k (row_far a3 a5)) (mv_ne a1 hm h.lt) a2 a3 (mv_ne' a4 hm (brow_lt h.block)) (mv_ne' a5 hm (fun k hk => (q_lt h.found k hk).2)) a6
/-- What was found has changed. -/
theorem PM.setF (h : PM W P dv kv fv s) {l : List ByteArray} (k : Keep (P :: fv.ownBlock.toList) W W') (hm : Mv W fv v') (hQ : QRow W' 0 9 1 v' l.length (stRow l)) (hB : Blk W' P (psCells dv kv v' { s with found := l }) 110) : PM W' P dv kv v' { s with found := l } := by
  obtain ⟨a1, a2, a3, a4, a5, a6⟩ := h.far
  exact PM.of hB (q_keep h.data k (row_far a1 a5.symm)) (q_keep h.block k (row_far a2 a6.symm)) hQ a1 a2 (mv_ne a3 hm h.lt) a4 (mv_ne a5 hm (brow_lt h.data)) (mv_ne a6 hm (brow_lt h.block))
/-- The parser searches, begins, or has seen another byte. -/
theorem PM.fix (h : PM W P dv kv fv s) {s' : Ps} (k : Keep [P] W W') (hB : Blk W' P (psCells dv kv fv s') 110) (h1 : s'.data = s.data) (h2 : s'.block = s.block) (h3 : s'.found = s.found) : PM W' P dv kv fv s' := by
  obtain ⟨a1, a2, a3, a4, a5, a6⟩ := h.far
  have n : ∀ {v : Value}, Far (bv P) v → ∀ g, v.ownBlock = some g → g ∉ [P] := fun hf g hg hm => by
    simp at hm; subst hm; exact hf g rfl hg
  exact PM.of hB (by rw [h1]; exact q_keep h.data k (n a1)) (by rw [h2]; exact q_keep h.block k (n a2)) (by rw [h3]; exact q_keep h.found k (n a3)) a1 a2 a3 a4 a5 a6
theorem PM.clear (h : PM W P dv kv fv s) {s' : Ps} (k : Keep [P] W W') (hB : Blk W' P (psCells (.slice none 0 0) (.slice none 0 0) fv s') 110) (h1 : s'.data = []) (h2 : s'.block = []) (h3 : s'.found = s.found) : PM W' P (.slice none 0 0) (.slice none 0 0) fv s' := by
  obtain ⟨a1, a2, a3, a4, a5, a6⟩ := h.far
  have n : ∀ {v : Value}, Far (bv P) v → ∀ g, v.ownBlock = some g → g ∉ [P] := fun hf g hg hm => by
    simp at hm; subst hm; exact hf g rfl hg
  exact PM.of hB (by rw [h1]; exact brow_nil _) (by rw [h2]; exact brow_nil _) (by rw [h3]; exact q_keep h.found k (n a3)) (fun _ _ h => by cases h) (fun _ _ h => by cases h) a3 (fun _ h => by cases h) (fun _ h => by cases h) (fun _ h => by cases h)
end
/-- What a call with the parser may have changed. -/
structure PTo (W W' : World) (P : Nat) (dv kv fv dv' kv' fv' : Value) : Prop where
  keep : Keep (P :: (dv.ownBlock.toList ++ kv.ownBlock.toList ++ fv.ownBlock.toList)) W W'
  md : Mv W dv dv'
  mb : Mv W kv kv'
  mf : Mv W fv fv'
theorem PTo.refl {W : World} {P : Nat} {dv kv fv : Value} : PTo W W P dv kv fv dv kv fv := ⟨Keep.refl _ _, Mv.rfl, Mv.rfl, Mv.rfl⟩
theorem mv_trans {W W1 : World} {a b c : Value} (h1 : Mv W a b) (h2 : Mv W1 b c) (hs : W.heap.size ≤ W1.heap.size) : Mv W a c := fun k hk => by
  rcases h2 k hk with e | e
  · exact h1 k e
  · exact .inr (Nat.le_trans hs e)
theorem PTo.trans {W W1 W2 : World} {P : Nat} {dv kv fv d1 k1 f1 d2 k2 f2 : Value} (h1 : PTo W W1 P dv kv fv d1 k1 f1) (h2 : PTo W1 W2 P d1 k1 f1 d2 k2 f2) : PTo W W2 P dv kv fv d2 k2 f2 := by
  refine ⟨h1.keep.trans_new h2.keep (fun i hi => ?_), mv_trans h1.md h2.md h1.keep.size, mv_trans h1.mb h2.mb h1.keep.size, mv_trans h1.mf h2.mf h1.keep.size⟩
  simp only [List.mem_cons, List.mem_append, Option.mem_toList] at hi ⊢
  rcases hi with e | (e | e) | e
  · exact .inl (.inl e)
  · rcases h1.md i e with e | e
    · exact .inl (.inr (.inl (.inl e)))
    · exact .inr e
  · rcases h1.mb i e with e | e
    · exact .inl (.inr (.inl (.inr e)))
    · exact .inr e
  · rcases h1.mf i e with e | e
    · exact .inl (.inr (.inr e))
    · exact .inr e
end
section
open Go.RowKit
theorem own_k {P : Nat} {d k f : Value} {i : Nat} (h : i ∈ P :: k.ownBlock.toList) : i ∈ P :: (d.ownBlock.toList ++ k.ownBlock.toList ++ f.ownBlock.toList) := by
  simp only [List.mem_cons, List.mem_append, Option.mem_toList] at h ⊢
  rcases h with e | e
  · exact .inl e
  · exact .inr (.inl (.inr e))
theorem own_d {P : Nat} {d k f : Value} {i : Nat} (h : i ∈ P :: d.ownBlock.toList) : i ∈ P :: (d.ownBlock.toList ++ k.ownBlock.toList ++ f.ownBlock.toList) := by
  simp only [List.mem_cons, List.mem_append, Option.mem_toList] at h ⊢
  rcases h with e | e
  · exact .inl e
  · exact .inr (.inl (.inl e))
theorem own_f {P : Nat} {d k f : Value} {i : Nat} (h : i ∈ P :: f.ownBlock.toList) : i ∈ P :: (d.ownBlock.toList ++ k.ownBlock.toList ++ f.ownBlock.toList) := by
  simp only [List.mem_cons, List.mem_append, Option.mem_toList] at h ⊢
  rcases h with e | e
  · exact .inl e
  · exact .inr (.inr e)
section
variable {W W' : World} {P : Nat} {dv kv fv v' : Value} {s : Ps}
theorem far_own {v : Value} (h : Far (bv P) v) : P ∉ v.ownBlock.toList := fun hm => by
  rw [Option.mem_toList] at hm; exact h P rfl hm
theorem mv_far {v : Value} (h : Far (bv P) v) (hm : Mv W v v') (hP : P < W.heap.size) : v'.ownBlock ≠ some P := fun e => by
  rcases hm P e with e | e
  · exact h P rfl e
  · omega
/-- The block is appended to, and stored. -/
theorem PM.appB (h : PM W P dv kv fv s) {l : List UInt8} (k : Keep kv.ownBlock.toList W W') (hm : Mv W kv v') (hQ : BRow W' v' l) :
    Blk W' P (psCells dv kv fv s) 110 ∧ PM (W'.setCell ⟨P, 4, none⟩ v') P dv v' fv { s with block := l } ∧ PTo W (W'.setCell ⟨P, 4, none⟩ v') P dv kv fv dv v' fv := by
  have a2 := h.far.2.1
  have hB := h.blk.keep k (far_own a2)
  have hK : Keep (P :: kv.ownBlock.toList) W (W'.setCell ⟨P, 4, none⟩ v') := (k.mono (fun i hi => List.mem_cons_of_mem _ hi)).setCell (.inl (by simp)) _
  exact ⟨hB, h.setB hK hm (q_set hQ (mv_far a2 hm h.blk.lt) _) (hB.set 4 v'), ⟨hK.mono (fun i hi => own_k hi), Mv.rfl, hm, Mv.rfl⟩⟩
/-- The data are appended to, and stored. -/
theorem PM.appD (h : PM W P dv kv fv s) {l : List UInt8} (k : Keep dv.ownBlock.toList W W') (hm : Mv W dv v') (hQ : BRow W' v' l) :
    Blk W' P (psCells dv kv fv s) 110 ∧ PM (W'.setCell ⟨P, 3, none⟩ v') P v' kv fv { s with data := l } ∧ PTo W (W'.setCell ⟨P, 3, none⟩ v') P dv kv fv v' kv fv := by
  have a2 := h.far.1
  have hB := h.blk.keep k (far_own a2)
  have hK : Keep (P :: dv.ownBlock.toList) W (W'.setCell ⟨P, 3, none⟩ v') := (k.mono (fun i hi => List.mem_cons_of_mem _ hi)).setCell (.inl (by simp)) _
  exact ⟨hB, h.setD hK hm (q_set hQ (mv_far a2 hm h.blk.lt) _) (hB.set 3 v'), ⟨hK.mono (fun i hi => own_d hi), hm, Mv.rfl, Mv.rfl⟩⟩
end
set_option maxHeartbeats 8000000 in
set_option maxRecDepth 100000 in
theorem begin1_more (P : Nat) (dv kv fv : Value) (s : Ps) (b : UInt8) (w : World) (hl : s.block.length < 7) (h : PM w P dv kv fv s) :
    Calls Tryz.prog 87 #[.pointer (some ⟨P, 0, none⟩), .int .u8 (b.toNat : Int)] w fun e w' => e = .returned (.tuple #[]) ∧ ∃ kv', PTo w w' P dv kv fv dv kv' fv ∧ PM w' P dv kv' fv { s with block := s.block ++ [b] } := by
  have HP := Lib.hid h
  obtain ⟨ka, kc, rfl⟩ := brow_form h.block
  have HB := Lib.hid h.blk
  have HR := Lib.hid h.block
  have c0 := HB.out.cell 0
  have c1 := HB.out.cell 1
  have c2 := HB.out.cell 2
  have c3 := HB.out.cell 3
  have c4 := HB.out.cell 4
  have c5 := HB.out.cell 5
  have c6 := HB.out.cell 6
  simp only [psCells, List.getElem?_cons_zero, List.getElem?_cons_succ] at c0 c1 c2 c3 c4 c5 c6
  have f0 := HB.out.free 0
  have f1 := HB.out.free 1
  have f2 := HB.out.free 2
  have f3 := HB.out.free 3
  have f4 := HB.out.free 4
  have f5 := HB.out.free 5
  have f6 := HB.out.free 6
  clear h
  go_enter Tryz.func87, Tryz.ntmps87
  go_wp2_with (at_builtin; refine append_byte_q _ rfl _ _ rfl _ _ rfl (q_alloc HR.out _) w.heap.size b rfl ?c1 ?c2 ?_)
  case c1 => exact (Blk.new w [vb b] 5).cell 0
  case c2 => omega
  intro v1 w1 hR1 hK1 hm1
  obtain ⟨va, vc, rfl⟩ := brow_form hR1
  obtain ⟨m, hm⟩ : ∃ m, m = (s.block ++ [b]).length := ⟨_, rfl⟩
  have HMM := Lib.hid hm
  rw [← hm] at hR1 hm1 ⊢
  clear hm
  obtain ⟨hB1, hM1, hT1⟩ := HP.out.appB (((Keep.refl _ w).alloc _).trans hK1) (by intro k hk; rcases hm1 with e | e; exact .inl (e ▸ hk); rw [e] at hk; injection hk with hk; subst hk; right; simp) hR1
  have HM1 := Lib.hid hM1; have HT1 := Lib.hid hT1
  clear hM1 hT1 hK1 hm1 hR1 c0 c1 c2 c3 c4 c5 c6 f0 f1 f2 f3 f4 f5 f6 HB HR HP
  have HB1 := Lib.hid hB1; clear hB1
  have c4 := HB1.out.cell 4; have f4 := HB1.out.free 4
  simp only [psCells, List.getElem?_cons_zero, List.getElem?_cons_succ] at c4
  go_upto_region 1 with fail
  clear c4 f4 HB1
  refine gen_world (fun W => PM W P dv (.slice va m vc) fv { s with block := s.block ++ [b] } ∧ PTo w W P dv (.slice ka s.block.length kc) fv dv (.slice va m vc) fv) ⟨HM1.out, HT1.out⟩ ?_
  clear HM1 HT1
  rintro w2 ⟨hM, hT⟩
  have HM := Lib.hid hM; have HT := Lib.hid hT; clear hM hT
  have c4 := HM.out.blk.cell 4
  simp only [psCells, List.getElem?_cons_zero, List.getElem?_cons_succ] at c4
  have hll : m = s.block.length + 1 := by rw [HMM.out]; simp
  have q1 : (m : Int) < 8 := by omega
  clear hll
  go_wp2_with fail
  exact bodyPost_ret (v := .tuple #[]) (by simp [results, Tryz.results87, go_sem]) rfl ⟨rfl, _, HT.out, HM.out⟩
theorem PTo.below {W W1 W2 : World} {P : Nat} {dv kv fv d1 k1 f1 : Value} (h : PTo W W1 P dv kv fv d1 k1 f1) (k : Below W1.heap.size W1 W2) : PTo W W2 P dv kv fv d1 k1 f1 :=
  ⟨h.keep.below k h.keep.size, h.md, h.mb, h.mf⟩
set_option maxHeartbeats 8000000 in
set_option maxRecDepth 100000 in
theorem begin1_good (P : Nat) (dv kv fv : Value) (s : Ps) (seven : List UInt8) (wr : Int) (b : UInt8) (w : World) (hl : s.block.length = 7) (hd : s.data.length ≤ 100000) (h7 : seven.length ≤ 7) (hG : Gl w) (hown : ∀ i ∈ P :: (dv.ownBlock.toList ++ kv.ownBlock.toList ++ fv.ownBlock.toList), 1 < i)
    (hV : chkV (s.block ++ [b]) = .tuple #[.string ⟨seven.toArray⟩, .int .i64 wr, .int .i64 0]) (hn : (s.data ++ seven).length < 350) (h : PM w P dv kv fv s) :
    Calls Tryz.prog 87 #[.pointer (some ⟨P, 0, none⟩), .int .u8 (b.toNat : Int)] w fun e w' => e = .returned (.tuple #[]) ∧ ∃ dv' kv', PTo w w' P dv kv fv dv' kv' fv ∧ PM w' P dv' kv' fv { s with block := [], data := s.data ++ seven } := by
  have HOWN := Lib.hid hown; have HV := Lib.hid hV; have HSZ := Lib.hid (And.intro hd h7); have HL7 := Lib.hid hl
  have HNX := Lib.hid hn
  clear hown hV hd h7 hl hn
  obtain ⟨dv0, hdv⟩ : ∃ dv0, dv0 = dv := ⟨_, rfl⟩
  rw [← hdv] at HOWN ⊢
  have HDV := Lib.hid hdv
  clear hdv
  have HP := Lib.hid h
  obtain ⟨ka, kc, rfl⟩ := brow_form h.block
  have HB := Lib.hid h.blk
  have HR := Lib.hid h.block
  have c0 := HB.out.cell 0
  have c1 := HB.out.cell 1
  have c2 := HB.out.cell 2
  have c3 := HB.out.cell 3
  have c4 := HB.out.cell 4
  have c5 := HB.out.cell 5
  have c6 := HB.out.cell 6
  simp only [psCells, List.getElem?_cons_zero, List.getElem?_cons_succ] at c0 c1 c2 c3 c4 c5 c6
  have f0 := HB.out.free 0
  have f1 := HB.out.free 1
  have f2 := HB.out.free 2
  have f3 := HB.out.free 3
  have f4 := HB.out.free 4
  have f5 := HB.out.free 5
  have f6 := HB.out.free 6
  have HGG := Lib.hid hG
  clear hG
  clear h
  go_enter Tryz.func87, Tryz.ntmps87
  go_wp2_with (at_builtin; refine append_byte_q _ rfl _ _ rfl _ _ rfl (q_alloc HR.out _) w.heap.size b rfl ?c1 ?c2 ?_)
  case c1 => exact (Blk.new w [vb b] 5).cell 0
  case c2 => have := HL7.out; omega
  intro v1 w1 hR1 hK1 hm1
  obtain ⟨va, vc, rfl⟩ := brow_form hR1
  obtain ⟨m, hm⟩ : ∃ m, m = (s.block ++ [b]).length := ⟨_, rfl⟩
  have HMM := Lib.hid hm
  rw [← hm] at hR1 hm1 ⊢
  clear hm
  obtain ⟨hB1, hM1, hT1⟩ := HP.out.appB (((Keep.refl _ w).alloc _).trans hK1) (by intro k hk; rcases hm1 with e | e; exact .inl (e ▸ hk); rw [e] at hk; injection hk with hk; subst hk; right; simp) hR1
  have HM1 := Lib.hid hM1; have HT1 := Lib.hid hT1
  clear hM1 hT1 hK1 hm1 hR1 c0 c1 c2 c3 c4 c5 c6 f0 f1 f2 f3 f4 f5 f6 HB HR HP
  have HB1 := Lib.hid hB1; clear hB1
  have c4 := HB1.out.cell 4; have f4 := HB1.out.free 4
  simp only [psCells, List.getElem?_cons_zero, List.getElem?_cons_succ] at c4
  go_upto_region 1 with fail
  clear c4 f4 HB1
  refine gen_world (fun W => PM W P dv (.slice va m vc) fv { s with block := s.block ++ [b] } ∧ PTo w W P dv (.slice ka s.block.length kc) fv dv (.slice va m vc) fv) ⟨HM1.out, HT1.out⟩ ?_
  clear HM1 HT1
  rintro w2 ⟨hM, hT⟩
  have HM := Lib.hid hM; have HT := Lib.hid hT; clear hM hT
  have hll : m = 8 := by have := HL7.out; rw [HMM.out]; simp; omega
  have q1 : ¬ (m : Int) < 8 := by omega
  have hG2 : Gl w2 := HGG.out.keep HT.out.keep (fun i hi => HOWN.out i (by rw [HDV.out]; exact hi))
  obtain ⟨B, hBB⟩ : ∃ B : ByteArray, B = ⟨(s.block ++ [b]).toArray⟩ := ⟨_, rfl⟩
  have hB8 : B.size = 8 := by rw [hBB, ← hll, HMM.out]; exact List.size_toArray
  have hBL : B.data.toList = s.block ++ [b] := by rw [hBB]
  have hcv := brow_string HM.out.block
  rw [← hBB] at hcv
  have HCK := Lib.hid (Check_any B w2 hB8 hG2)
  rw [hBL, HV.out] at HCK
  have c4 := HM.out.blk.cell 4
  simp only [psCells, List.getElem?_cons_zero, List.getElem?_cons_succ] at c4
  clear hBB hBL hll HGG HV hG2 hB8
  have hcv2 : (convert 97 9 (.slice va m vc)).run Tryz.prog w2 = .ok (.string B) w2 := hcv
  clear hcv
  go_wp2_with fail
  refine HCK.out.mono ?_
  rintro e w3 ⟨rfl, hL3⟩
  have HM3 := Lib.hid (HM.out.below hL3)
  have HT3 := Lib.hid (by rw [HDV.out]; exact HT.out.below hL3 : PTo w w3 P dv0 (.slice ka s.block.length kc) fv dv (.slice va m vc) fv)
  clear HM HT HCK hL3 c4 hcv2
  obtain ⟨da, dc, rfl⟩ := brow_form HM3.out.data
  have c3 := HM3.out.blk.cell 3; have f3 := HM3.out.blk.free 3
  simp only [psCells, List.getElem?_cons_zero, List.getElem?_cons_succ] at c3
  have HR3 := Lib.hid HM3.out.data
  go_wp2_with (at_builtin; refine append_string_q _ rfl _ _ rfl _ _ rfl HR3.out ⟨seven.toArray⟩ rfl ?c1 ?_)
  case c1 => obtain ⟨h4, h5⟩ := HSZ.out; show s.data.length + seven.toArray.size ≤ 1000000; rw [List.size_toArray]; omega
  intro v4 w4 hR4 hK4 hm4
  obtain ⟨hB4, hM4, hT4⟩ := HM3.out.appD hK4 (by intro k hk; rcases hm4 with e | e; exact .inl (e ▸ hk); rw [e] at hk; injection hk with hk; subst hk; right; simp) hR4
  obtain ⟨ga, gc, rfl⟩ := brow_form hR4
  obtain ⟨n, hn⟩ : ∃ n, n = (s.data ++ seven).length := ⟨_, rfl⟩
  have HN := Lib.hid hn
  rw [← hn] at hM4 hT4 ⊢
  clear hn hR4 hK4 hm4 HR3 c3 f3
  have HM4 := Lib.hid hM4; have HT4 := Lib.hid (HT3.out.trans hT4)
  have c3 := hB4.cell 3; have f3 := hB4.free 3
  simp only [psCells, List.getElem?_cons_zero, List.getElem?_cons_succ] at c3
  clear HM3 HT3 hM4 hT4 hB4
  go_upto_region 4 with fail
  clear c3 f3
  refine gen_world (fun W => PM W P (.slice ga n gc) (.slice va m vc) fv { s with block := s.block ++ [b], data := s.data ++ seven } ∧ PTo w W P dv0 (.slice ka s.block.length kc) fv (.slice ga n gc) (.slice va m vc) fv) ⟨HM4.out, HT4.out⟩ ?_
  clear HM4 HT4
  rintro w5 ⟨hM, hT⟩
  have HM := Lib.hid hM; have HT := Lib.hid hT; clear hM hT
  obtain ⟨u', hu, hRu, hou⟩ := brow_upto0 HM.out.block
  obtain ⟨ua, uc, rfl⟩ := brow_form hRu
  simp only [List.length_nil] at hu hRu hou
  have c4 := HM.out.blk.cell 4; have f4 := HM.out.blk.free 4
  simp only [psCells, List.getElem?_cons_zero, List.getElem?_cons_succ] at c4
  have hmu : Mv w5 (.slice va m vc) (.slice ua 0 uc) := fun k hk => .inl (hou ▸ hk)
  have hfar := HM.out.far.2.1
  have hK5 : Keep (P :: (Value.slice va m vc).ownBlock.toList) w5 (w5.setCell ⟨P, 4, none⟩ (.slice ua 0 uc)) := (Keep.refl _ _).setCell (.inl (by simp)) _
  have HM5 := Lib.hid (HM.out.setB hK5 hmu (q_set hRu (mv_far hfar hmu HM.out.blk.lt) _) (HM.out.blk.set 4 _))
  have HT5 := Lib.hid (HT.out.trans ⟨hK5.mono (fun i hi => own_k hi), Mv.rfl, hmu, Mv.rfl⟩)
  clear HM HT hRu hou hmu hfar hK5
  go_upto_region 5 with fail
  clear c4 f4 hu
  refine gen_world (fun W => PM W P (.slice ga n gc) (.slice ua 0 uc) fv { s with block := [], data := s.data ++ seven } ∧ PTo w W P dv0 (.slice ka s.block.length kc) fv (.slice ga n gc) (.slice ua 0 uc) fv) ⟨HM5.out, HT5.out⟩ ?_
  clear HM5 HT5
  rintro w6 ⟨hM, hT⟩
  have HM := Lib.hid hM; have HT := Lib.hid hT; clear hM hT
  have c3 := HM.out.blk.cell 3
  simp only [psCells, List.getElem?_cons_zero, List.getElem?_cons_succ] at c3
  have q3 : (n : Int) < 350 := by have := HNX.out; rw [HN.out]; omega
  go_wp2_with fail
  exact bodyPost_ret (v := .tuple #[]) (by simp [results, Tryz.results87, go_sem]) rfl ⟨rfl, _, _, HT.out, HM.out⟩
set_option maxHeartbeats 8000000 in
set_option maxRecDepth 100000 in
theorem begin1_none (P : Nat) (dv kv fv : Value) (s : Ps) (seven : List UInt8) (wr : Int) (b : UInt8) (w : World) (hl : s.block.length = 7) (hd : s.data.length ≤ 100000) (h7 : seven.length ≤ 7) (hG : Gl w) (hown : ∀ i ∈ P :: (dv.ownBlock.toList ++ kv.ownBlock.toList ++ fv.ownBlock.toList), 1 < i)
    (hV : chkV (s.block ++ [b]) = .tuple #[.string ⟨seven.toArray⟩, .int .i64 wr, .int .i64 6]) (hn : s.data ++ seven = []) (h : PM w P dv kv fv s) :
    Calls Tryz.prog 87 #[.pointer (some ⟨P, 0, none⟩), .int .u8 (b.toNat : Int)] w fun e w' => e = .returned (.tuple #[]) ∧ ∃ dv' kv', PTo w w' P dv kv fv dv' kv' fv ∧ PM w' P dv' kv' fv (searchS { s with block := [], data := s.data ++ seven }) := by
  have HOWN := Lib.hid hown; have HV := Lib.hid hV; have HSZ := Lib.hid (And.intro hd h7); have HL7 := Lib.hid hl
  have HNX := Lib.hid hn
  clear hown hV hd h7 hl hn
  obtain ⟨dv0, hdv⟩ : ∃ dv0, dv0 = dv := ⟨_, rfl⟩
  rw [← hdv] at HOWN ⊢
  have HDV := Lib.hid hdv
  clear hdv
  have HP := Lib.hid h
  obtain ⟨ka, kc, rfl⟩ := brow_form h.block
  have HB := Lib.hid h.blk
  have HR := Lib.hid h.block
  have c0 := HB.out.cell 0
  have c1 := HB.out.cell 1
  have c2 := HB.out.cell 2
  have c3 := HB.out.cell 3
  have c4 := HB.out.cell 4
  have c5 := HB.out.cell 5
  have c6 := HB.out.cell 6
  simp only [psCells, List.getElem?_cons_zero, List.getElem?_cons_succ] at c0 c1 c2 c3 c4 c5 c6
  have f0 := HB.out.free 0
  have f1 := HB.out.free 1
  have f2 := HB.out.free 2
  have f3 := HB.out.free 3
  have f4 := HB.out.free 4
  have f5 := HB.out.free 5
  have f6 := HB.out.free 6
  have HGG := Lib.hid hG
  clear hG
  clear h
  go_enter Tryz.func87, Tryz.ntmps87
  go_wp2_with (at_builtin; refine append_byte_q _ rfl _ _ rfl _ _ rfl (q_alloc HR.out _) w.heap.size b rfl ?c1 ?c2 ?_)
  case c1 => exact (Blk.new w [vb b] 5).cell 0
  case c2 => have := HL7.out; omega
  intro v1 w1 hR1 hK1 hm1
  obtain ⟨va, vc, rfl⟩ := brow_form hR1
  obtain ⟨m, hm⟩ : ∃ m, m = (s.block ++ [b]).length := ⟨_, rfl⟩
  have HMM := Lib.hid hm
  rw [← hm] at hR1 hm1 ⊢
  clear hm
  obtain ⟨hB1, hM1, hT1⟩ := HP.out.appB (((Keep.refl _ w).alloc _).trans hK1) (by intro k hk; rcases hm1 with e | e; exact .inl (e ▸ hk); rw [e] at hk; injection hk with hk; subst hk; right; simp) hR1
  have HM1 := Lib.hid hM1; have HT1 := Lib.hid hT1
  clear hM1 hT1 hK1 hm1 hR1 c0 c1 c2 c3 c4 c5 c6 f0 f1 f2 f3 f4 f5 f6 HB HR HP
  have HB1 := Lib.hid hB1; clear hB1
  have c4 := HB1.out.cell 4; have f4 := HB1.out.free 4
  simp only [psCells, List.getElem?_cons_zero, List.getElem?_cons_succ] at c4
  go_upto_region 1 with fail
  clear c4 f4 HB1
  refine gen_world (fun W => PM W P dv (.slice va m vc) fv { s with block := s.block ++ [b] } ∧ PTo w W P dv (.slice ka s.block.length kc) fv dv (.slice va m vc) fv) ⟨HM1.out, HT1.out⟩ ?_
  clear HM1 HT1
  rintro w2 ⟨hM, hT⟩
  have HM := Lib.hid hM; have HT := Lib.hid hT; clear hM hT
  have hll : m = 8 := by have := HL7.out; rw [HMM.out]; simp; omega
  have q1 : ¬ (m : Int) < 8 := by omega
  have hG2 : Gl w2 := HGG.out.keep HT.out.keep (fun i hi => HOWN.out i (by rw [HDV.out]; exact hi))
  obtain ⟨B, hBB⟩ : ∃ B : ByteArray, B = ⟨(s.block ++ [b]).toArray⟩ := ⟨_, rfl⟩
  have hB8 : B.size = 8 := by rw [hBB, ← hll, HMM.out]; exact List.size_toArray
  have hBL : B.data.toList = s.block ++ [b] := by rw [hBB]
  have hcv := brow_string HM.out.block
  rw [← hBB] at hcv
  have HCK := Lib.hid (Check_any B w2 hB8 hG2)
  rw [hBL, HV.out] at HCK
  have c4 := HM.out.blk.cell 4
  simp only [psCells, List.getElem?_cons_zero, List.getElem?_cons_succ] at c4
  clear hBB hBL hll HGG HV hG2 hB8
  have hcv2 : (convert 97 9 (.slice va m vc)).run Tryz.prog w2 = .ok (.string B) w2 := hcv
  clear hcv
  go_wp2_with fail
  refine HCK.out.mono ?_
  rintro e w3 ⟨rfl, hL3⟩
  have HM3 := Lib.hid (HM.out.below hL3)
  have HT3 := Lib.hid (by rw [HDV.out]; exact HT.out.below hL3 : PTo w w3 P dv0 (.slice ka s.block.length kc) fv dv (.slice va m vc) fv)
  clear HM HT HCK hL3 c4 hcv2
  obtain ⟨da, dc, rfl⟩ := brow_form HM3.out.data
  have c3 := HM3.out.blk.cell 3; have f3 := HM3.out.blk.free 3
  simp only [psCells, List.getElem?_cons_zero, List.getElem?_cons_succ] at c3
  have HR3 := Lib.hid HM3.out.data
  go_wp2_with (at_builtin; refine append_string_q _ rfl _ _ rfl _ _ rfl HR3.out ⟨seven.toArray⟩ rfl ?c1 ?_)
  case c1 => obtain ⟨h4, h5⟩ := HSZ.out; show s.data.length + seven.toArray.size ≤ 1000000; rw [List.size_toArray]; omega
  intro v4 w4 hR4 hK4 hm4
  obtain ⟨hB4, hM4, hT4⟩ := HM3.out.appD hK4 (by intro k hk; rcases hm4 with e | e; exact .inl (e ▸ hk); rw [e] at hk; injection hk with hk; subst hk; right; simp) hR4
  obtain ⟨ga, gc, rfl⟩ := brow_form hR4
  obtain ⟨n, hn⟩ : ∃ n, n = (s.data ++ seven).length := ⟨_, rfl⟩
  have HN := Lib.hid hn
  rw [← hn] at hM4 hT4 ⊢
  clear hn hR4 hK4 hm4 HR3 c3 f3
  have HM4 := Lib.hid hM4; have HT4 := Lib.hid (HT3.out.trans hT4)
  have c3 := hB4.cell 3; have f3 := hB4.free 3
  simp only [psCells, List.getElem?_cons_zero, List.getElem?_cons_succ] at c3
  clear HM3 HT3 hM4 hT4 hB4
  go_upto_region 4 with fail
  clear c3 f3
  refine gen_world (fun W => PM W P (.slice ga n gc) (.slice va m vc) fv { s with block := s.block ++ [b], data := s.data ++ seven } ∧ PTo w W P dv0 (.slice ka s.block.length kc) fv (.slice ga n gc) (.slice va m vc) fv) ⟨HM4.out, HT4.out⟩ ?_
  clear HM4 HT4
  rintro w5 ⟨hM, hT⟩
  have HM := Lib.hid hM; have HT := Lib.hid hT; clear hM hT
  obtain ⟨u', hu, hRu, hou⟩ := brow_upto0 HM.out.block
  obtain ⟨ua, uc, rfl⟩ := brow_form hRu
  simp only [List.length_nil] at hu hRu hou
  have c4 := HM.out.blk.cell 4; have f4 := HM.out.blk.free 4
  simp only [psCells, List.getElem?_cons_zero, List.getElem?_cons_succ] at c4
  have hmu : Mv w5 (.slice va m vc) (.slice ua 0 uc) := fun k hk => .inl (hou ▸ hk)
  have hfar := HM.out.far.2.1
  have hK5 : Keep (P :: (Value.slice va m vc).ownBlock.toList) w5 (w5.setCell ⟨P, 4, none⟩ (.slice ua 0 uc)) := (Keep.refl _ _).setCell (.inl (by simp)) _
  have HM5 := Lib.hid (HM.out.setB hK5 hmu (q_set hRu (mv_far hfar hmu HM.out.blk.lt) _) (HM.out.blk.set 4 _))
  have HT5 := Lib.hid (HT.out.trans ⟨hK5.mono (fun i hi => own_k hi), Mv.rfl, hmu, Mv.rfl⟩)
  clear HM HT hRu hou hmu hfar hK5
  go_upto_region 5 with fail
  clear c4 f4 hu
  refine gen_world (fun W => PM W P (.slice ga n gc) (.slice ua 0 uc) fv { s with block := [], data := s.data ++ seven } ∧ PTo w W P dv0 (.slice ka s.block.length kc) fv (.slice ga n gc) (.slice ua 0 uc) fv) ⟨HM5.out, HT5.out⟩ ?_
  clear HM5 HT5
  rintro w6 ⟨hM, hT⟩
  have HM := Lib.hid hM; have HT := Lib.hid hT; clear hM hT
  have c3 := HM.out.blk.cell 3
  simp only [psCells, List.getElem?_cons_zero, List.getElem?_cons_succ] at c3
  have q3 : n = 0 := by rw [HN.out, HNX.out]; rfl
  subst q3
  have HSE := Lib.hid (search_any _ _ _ _ _ _ _ P w6 HM.out.blk)
  go_wp2_with fail
  refine HSE.out.mono ?_
  rintro e w7 ⟨rfl, hK7, hB7⟩
  go_wp2_with fail
  go_end0
  have hM7 := HM.out.clear (s' := searchS { s with block := [], data := s.data ++ seven }) hK7 hB7 rfl rfl rfl
  exact ⟨rfl, _, _, HT.out.trans ⟨hK7.mono (fun i hi => by simp at hi; simp [hi]), (fun k hk => by cases hk), (fun k hk => by cases hk), Mv.rfl⟩, hM7⟩
end
end Go.Proofs.YtgopighmifpefaaGreatDoor
