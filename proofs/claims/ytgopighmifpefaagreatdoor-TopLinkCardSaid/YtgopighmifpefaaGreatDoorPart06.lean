/- What is proved here: a part of the proof of TopLink (texts T3 T3r T4 T5 Step Fo10). No condition. -/
import Derived.Deep.RegionHeld3
import Derived.Deep.RegionWith
import Derived.IntWalk
import Derived.Deep.RegionLaw
import Derived.Deep.MidRow
import Derived.Test.YtgopighmifpefaaGreatDoorPart01
import Derived.Test.YtgopighmifpefaaGreatDoorPart03
import Derived.Test.YtgopighmifpefaaGreatDoorPart05
set_option linter.unusedVariables false
set_option linter.unusedSimpArgs false
namespace Go.Proofs.YtgopighmifpefaaGreatDoor
section
open Go.RowKit
def Tc.headN (x : Tc) : Nat := x.craft.toNat + (if x.byp then 8192 else 0) + (if x.ctl then 4096 else 0)
def Tc.sizeN (x : Tc) : Nat := x.chan.toNat * 1024 + (x.data.size + 6)
def Tc.body (x : Tc) : List UInt8 := be2 x.headN ++ be2 x.sizeN ++ [UInt8.ofNat x.seq.toNat] ++ x.data.data.toList
def Tc.enc (x : Tc) : List UInt8 := x.body ++ be2 (sum16 x.body).toNat
theorem or8192 : ∀ c : Nat, c < 256 → bits .or .i64 (c : Int) 8192 = ((c + 8192 : Nat) : Int) := by decide +kernel
theorem or12288 : ∀ c : Nat, c < 256 → bits .or .i64 ((c + 8192 : Nat) : Int) 4096 = ((c + 8192 + 4096 : Nat) : Int) := by decide +kernel
theorem or1024 : ∀ a : Nat, a < 8 → ∀ c : Nat, c < 256 → bits .or .i64 ((a * 1024 : Nat) : Int) (c : Int) = ((a * 1024 + c : Nat) : Int) := by decide +kernel
attribute [local go_sem] run_bytes bytes_size
set_option maxHeartbeats 4000000 in
set_option maxRecDepth 100000 in
theorem Put_bad (x : Tc) (w : World) (hg : x.good = false) : Calls Tryz.prog 34 #[x.val] w fun e w' => e = .returned (.tuple #[strOf [], .int .i64 2]) ∧ Below w.heap.size w w' := by
  have hv := valid_any x
  rw [hg] at hv
  obtain ⟨c, ch, b, k, s, d⟩ := x
  simp only [Tc.val] at hv ⊢
  have HV := Lib.hid hv; clear hv hg
  go_enter Tryz.func34, Tryz.ntmps34
  go_wp2_with fail
  refine (HV.out _).mono ?_
  rintro e w1 ⟨rfl, hL1⟩
  have HL0 := Lib.hid ((Below.refl w.heap.size w).alloc (Nat.le_refl _) (Obj.cells #[.int .i64 c, .int .i64 ch, .bool b, .bool k, .int .i64 s, .string d] 37))
  have HL1 := Lib.hid (HL0.out.trans (hL1.mono HL0.out.size)); clear hL1
  go_wp2_with fail
  go_ret2
  exact ⟨rfl, HL1.out⟩
set_option maxHeartbeats 8000000 in
set_option maxRecDepth 100000 in
theorem Put_ok (c ch s : Nat) (b k : Bool) (d : ByteArray) (w : World) (hc : c < 256) (hch : ch < 8) (hs : s < 256) (hd1 : 1 ≤ d.size) (hd2 : d.size ≤ 200) (hbk : (b || !k) = true) :
    Calls Tryz.prog 34 #[(Tc.mk c ch b k s d).val] w fun e w' => e = .returned (.tuple #[strOf (Tc.mk c ch b k s d).enc, .int .i64 0]) ∧ Below w.heap.size w w' := by
  have hg : (Tc.mk c ch b k s d).good = true := by rw [Tc.good_iff]; simp [hbk]; omega
  have hv := valid_any (Tc.mk c ch b k s d)
  rw [hg] at hv
  have hsb : ((s : Nat) : Int) = ((UInt8.ofNat s).toNat : Int) := by rw [UInt8.toNat_ofNat']; omega
  have HSB := Lib.hid hsb; clear hsb
  obtain ⟨sz, hsz⟩ : ∃ sz, sz = ch * 1024 + (d.size + 6) := ⟨_, rfl⟩
  have ho4 : bits .or .i64 ((ch : Int) * 1024) ((d.size : Int) + 7 - 1) = (sz : Int) := by
    have h := or1024 ch hch (d.size + 6) (by omega)
    rw [show ((ch * 1024 : Nat) : Int) = (ch : Int) * 1024 by simp, show ((d.size + 6 : Nat) : Int) = (d.size : Int) + 7 - 1 by omega, ← hsz] at h
    exact h
  have hsz2 : sz < 65536 := by omega
  have HSZ := Lib.hid hsz; clear hsz
  have HB := Lib.hid (Blk.new w (Tc.mk c ch b k s d).cells 37)
  have HL0 := Lib.hid ((Below.refl w.heap.size w).alloc (Nat.le_refl _) (Obj.cells #[.int .i64 c, .int .i64 ch, .bool b, .bool k, .int .i64 s, .string d] 37))
  obtain ⟨hd, hhd⟩ : ∃ hd, hd = c + (if b then 8192 else 0) + (if k then 4096 else 0) := ⟨_, rfl⟩
  have hen : (Tc.mk c ch b k s d).body = be2 hd ++ be2 sz ++ [UInt8.ofNat s] ++ d.data.toList := by
    rw [hhd, HSZ.out]; simp [Tc.body, Tc.headN, Tc.sizeN]
  have HEN := Lib.hid hen; clear hen
  simp only [Tc.val] at hv ⊢
  have HV := Lib.hid hv; clear hv hg
  cases b <;> cases k
  · have hd2 : hd = c := by simpa using hhd
    clear hhd
    subst hd2
    go_enter Tryz.func34, Tryz.ntmps34
    go_wp2_with fail
    refine (HV.out _).mono ?_
    rintro e w1 ⟨rfl, hL1⟩
    have HL1 := Lib.hid (HL0.out.trans (hL1.mono HL0.out.size))
    have hs1 : w.heap.size + 1 ≤ w1.heap.size := by have := hL1.size; simp at this; omega
    have HB1 := Lib.hid (HB.out.below hL1 (by simp)); clear hL1
    have c0 := HB1.out.cell 0
    have c1 := HB1.out.cell 1
    have c2 := HB1.out.cell 2
    have c3 := HB1.out.cell 3
    have c4 := HB1.out.cell 4
    have c5 := HB1.out.cell 5
    simp only [Tc.cells, List.getElem?_cons_zero, List.getElem?_cons_succ] at c0 c1 c2 c3 c4 c5
    obtain ⟨cur, hmk, hR1⟩ := make_row w1 (d.size + 7) ((d.size : Int) + 7) (by omega) (by omega)
    obtain ⟨w2, hw2⟩ : ∃ w2, w2 = w1.alloc (Obj.cells cur 5) := ⟨_, rfl⟩
    rw [← hw2] at hmk hR1
    have HL2 := Lib.hid (show Below w.heap.size w w2 by rw [hw2]; exact HL1.out.alloc HL1.out.size (Obj.cells cur 5))
    have HB2 := Lib.hid (show Blk w2 w.heap.size (Tc.mk hd ch false false s d).cells 37 by rw [hw2]; exact HB1.out.alloc (Obj.cells cur 5))
    have hs2 : w.heap.size + 1 ≤ w2.heap.size := by rw [hw2]; simp; omega
    have HR2 := Lib.hid (row_mono hR1 hs1); clear hR1 hw2
    go_wp2_with fail
    refine (appended_any (w.heap.size + 1) _ [] hd _ (by omega) hs2 (by simp) HR2.out).mono ?_
    rintro e w3 ⟨v3, rfl, hR3, hL3⟩
    clear hmk c0 c1 c2 c3 c4 c5
    have HL3 := Lib.hid (HL2.out.trans (hL3.mono (by omega)))
    have hs3 : w.heap.size + 1 ≤ w3.heap.size := by have := hL3.size; omega
    have HB3 := Lib.hid (HB2.out.below hL3 (by omega)); clear hL3
    have HR3 := Lib.hid hR3; clear hR3
    have c0 := HB3.out.cell 0
    have c1 := HB3.out.cell 1
    have c2 := HB3.out.cell 2
    have c3 := HB3.out.cell 3
    have c4 := HB3.out.cell 4
    have c5 := HB3.out.cell 5
    simp only [Tc.cells, List.getElem?_cons_zero, List.getElem?_cons_succ] at c0 c1 c2 c3 c4 c5
    go_wp2_with fail
    refine (appended_any (w.heap.size + 1) _ ([] ++ be2 hd) sz _ (by omega) hs3 (by simp [be2]) HR3.out).mono ?_
    rintro e w4 ⟨v4, rfl, hR4, hL4⟩
    clear c0 c1 c2 c3 c4 c5
    have HL4 := Lib.hid (HL3.out.trans (hL4.mono (by omega)))
    have hs4 : w.heap.size + 1 ≤ w4.heap.size := by have := hL4.size; omega
    have HB4 := Lib.hid (HB3.out.below hL4 (by omega)); clear hL4
    have HR4 := Lib.hid hR4; clear hR4
    have c0 := HB4.out.cell 0
    have c1 := HB4.out.cell 1
    have c2 := HB4.out.cell 2
    have c3 := HB4.out.cell 3
    have c4 := HB4.out.cell 4
    have c5 := HB4.out.cell 5
    simp only [Tc.cells, List.getElem?_cons_zero, List.getElem?_cons_succ] at c0 c1 c2 c3 c4 c5
    go_wp2_with (at_builtin; refine append_byte _ rfl _ _ rfl (w.heap.size + 1) _ _ rfl (row_keep HR4.out ((Keep.refl [] _).alloc _) (fun _ _ => by simp)) w4.heap.size (UInt8.ofNat s) rfl ?c1 ?c2 ?c3 ?_)
    case c1 =>
      rw [HSB.out]
      exact (Blk.new w4 [vb (UInt8.ofNat s)] 5).cell 0
    case c2 => simp [be2]
    case c3 => simp; omega
    intro v5 w5 hR5 hK5
    have hL5 : Below (w.heap.size + 1) w4 w5 := (((Keep.refl _ w4).alloc _).trans hK5).toBelowAt (by omega) (fun i hi => by rw [Option.mem_toList] at hi; exact (row_lt HR4.out i hi).1)
    clear hK5 c0 c1 c2 c3 c4 c5
    have HL5 := Lib.hid (HL4.out.trans (hL5.mono (by omega)))
    have hs5 : w.heap.size + 1 ≤ w5.heap.size := by have := hL5.size; omega
    have HB5 := Lib.hid (HB4.out.below hL5 (by omega)); clear hL5
    have HR5 := Lib.hid hR5; clear hR5
    have c0 := HB5.out.cell 0
    have c1 := HB5.out.cell 1
    have c2 := HB5.out.cell 2
    have c3 := HB5.out.cell 3
    have c4 := HB5.out.cell 4
    have c5 := HB5.out.cell 5
    simp only [Tc.cells, List.getElem?_cons_zero, List.getElem?_cons_succ] at c0 c1 c2 c3 c4 c5
    go_wp2_with (at_builtin; refine append_string _ rfl _ _ rfl (w.heap.size + 1) _ _ rfl HR5.out d rfl ?c1 ?c2 ?_)
    case c1 => simp [be2]; omega
    case c2 => omega
    intro v6 w6 hR6 hK6
    have hL6 : Below (w.heap.size + 1) w5 w6 := hK6.toBelowAt (by omega) (fun i hi => by rw [Option.mem_toList] at hi; exact (row_lt HR5.out i hi).1)
    clear hK6 c0 c1 c2 c3 c4 c5
    have HL6 := Lib.hid (HL5.out.trans (hL6.mono (by omega)))
    have hs6 : w.heap.size + 1 ≤ w6.heap.size := by have := hL6.size; omega
    have HB6 := Lib.hid (HB5.out.below hL6 (by omega)); clear hL6
    have HR6 := Lib.hid hR6; clear hR6
    obtain ⟨l, hl⟩ : ∃ l, l = [] ++ be2 hd ++ be2 sz ++ [UInt8.ofNat s] ++ d.data.toList := ⟨_, rfl⟩
    have HR6 := Lib.hid (show Row w6 (w.heap.size + 1) v6 l by rw [hl]; simpa using HR6.out)
    have hll : l.length ≤ 300 := by rw [hl]; simp [be2]; omega
    have HEN2 := Lib.hid (HEN.out.trans (hl.trans (by simp)).symm); clear hl
    obtain ⟨sm, hsm⟩ : ∃ sm, sm = sum16 l := ⟨_, rfl⟩
    have HSM := Lib.hid hsm; clear hsm
    have hsm3 : sm.toNat < 65536 := sm.isLt
    have hcv := run_string HR6.out
    go_wp2_with fail
    have hS := Sum16_any ⟨l.toArray⟩ w6 (by rw [size_mk]; omega)
    rw [show (ByteArray.mk l.toArray).data.toList = l from rfl, ← HSM.out, w16_def] at hS
    refine hS.mono ?_
    clear hS
    rintro e w7 ⟨rfl, hL7⟩
    clear hcv
    have hR7 := row_below HR6.out hL7 (Nat.le_refl _)
    have hL7 := hL7.mono hs6
    have HL7 := Lib.hid (HL6.out.trans (hL7.mono (by omega)))
    have hs7 : w.heap.size + 1 ≤ w7.heap.size := by have := hL7.size; omega
    have HB7 := Lib.hid (HB6.out.below hL7 (by omega)); clear hL7
    have HR7 := Lib.hid hR7; clear hR7
    go_wp2_with fail
    refine (appended_any (w.heap.size + 1) _ l sm.toNat _ hsm3 hs7 (by omega) HR7.out).mono ?_
    rintro e w8 ⟨v8, rfl, hR8, hL8⟩
    have HL8 := Lib.hid (HL7.out.trans (hL8.mono (by omega)))
    have hs8 : w.heap.size + 1 ≤ w8.heap.size := by have := hL8.size; omega
    have HB8 := Lib.hid (HB7.out.below hL8 (by omega)); clear hL8
    have HR8 := Lib.hid hR8; clear hR8
    have hcv := run_string HR8.out
    go_wp2_with fail
    go_ret2
    refine ⟨?_, HL8.out⟩
    rw [Tc.enc, HEN2.out, ← HSM.out]; rfl
  · simp at hbk
  · have ho := or8192 c hc
    have hd2 : hd = c + 8192 := by simpa using hhd
    rw [← hd2] at ho
    have hd3 : hd < 65536 := by omega
    clear hhd hd2
    go_enter Tryz.func34, Tryz.ntmps34
    go_wp2_with fail
    refine (HV.out _).mono ?_
    rintro e w1 ⟨rfl, hL1⟩
    have HL1 := Lib.hid (HL0.out.trans (hL1.mono HL0.out.size))
    have hs1 : w.heap.size + 1 ≤ w1.heap.size := by have := hL1.size; simp at this; omega
    have HB1 := Lib.hid (HB.out.below hL1 (by simp)); clear hL1
    have c0 := HB1.out.cell 0
    have c1 := HB1.out.cell 1
    have c2 := HB1.out.cell 2
    have c3 := HB1.out.cell 3
    have c4 := HB1.out.cell 4
    have c5 := HB1.out.cell 5
    simp only [Tc.cells, List.getElem?_cons_zero, List.getElem?_cons_succ] at c0 c1 c2 c3 c4 c5
    obtain ⟨cur, hmk, hR1⟩ := make_row w1 (d.size + 7) ((d.size : Int) + 7) (by omega) (by omega)
    obtain ⟨w2, hw2⟩ : ∃ w2, w2 = w1.alloc (Obj.cells cur 5) := ⟨_, rfl⟩
    rw [← hw2] at hmk hR1
    have HL2 := Lib.hid (show Below w.heap.size w w2 by rw [hw2]; exact HL1.out.alloc HL1.out.size (Obj.cells cur 5))
    have HB2 := Lib.hid (show Blk w2 w.heap.size (Tc.mk c ch true false s d).cells 37 by rw [hw2]; exact HB1.out.alloc (Obj.cells cur 5))
    have hs2 : w.heap.size + 1 ≤ w2.heap.size := by rw [hw2]; simp; omega
    have HR2 := Lib.hid (row_mono hR1 hs1); clear hR1 hw2
    go_wp2_with fail
    refine (appended_any (w.heap.size + 1) _ [] hd _ (by omega) hs2 (by simp) HR2.out).mono ?_
    rintro e w3 ⟨v3, rfl, hR3, hL3⟩
    clear hmk c0 c1 c2 c3 c4 c5
    have HL3 := Lib.hid (HL2.out.trans (hL3.mono (by omega)))
    have hs3 : w.heap.size + 1 ≤ w3.heap.size := by have := hL3.size; omega
    have HB3 := Lib.hid (HB2.out.below hL3 (by omega)); clear hL3
    have HR3 := Lib.hid hR3; clear hR3
    have c0 := HB3.out.cell 0
    have c1 := HB3.out.cell 1
    have c2 := HB3.out.cell 2
    have c3 := HB3.out.cell 3
    have c4 := HB3.out.cell 4
    have c5 := HB3.out.cell 5
    simp only [Tc.cells, List.getElem?_cons_zero, List.getElem?_cons_succ] at c0 c1 c2 c3 c4 c5
    go_wp2_with fail
    refine (appended_any (w.heap.size + 1) _ ([] ++ be2 hd) sz _ (by omega) hs3 (by simp [be2]) HR3.out).mono ?_
    rintro e w4 ⟨v4, rfl, hR4, hL4⟩
    clear c0 c1 c2 c3 c4 c5
    have HL4 := Lib.hid (HL3.out.trans (hL4.mono (by omega)))
    have hs4 : w.heap.size + 1 ≤ w4.heap.size := by have := hL4.size; omega
    have HB4 := Lib.hid (HB3.out.below hL4 (by omega)); clear hL4
    have HR4 := Lib.hid hR4; clear hR4
    have c0 := HB4.out.cell 0
    have c1 := HB4.out.cell 1
    have c2 := HB4.out.cell 2
    have c3 := HB4.out.cell 3
    have c4 := HB4.out.cell 4
    have c5 := HB4.out.cell 5
    simp only [Tc.cells, List.getElem?_cons_zero, List.getElem?_cons_succ] at c0 c1 c2 c3 c4 c5
    go_wp2_with (at_builtin; refine append_byte _ rfl _ _ rfl (w.heap.size + 1) _ _ rfl (row_keep HR4.out ((Keep.refl [] _).alloc _) (fun _ _ => by simp)) w4.heap.size (UInt8.ofNat s) rfl ?c1 ?c2 ?c3 ?_)
    case c1 =>
      rw [HSB.out]
      exact (Blk.new w4 [vb (UInt8.ofNat s)] 5).cell 0
    case c2 => simp [be2]
    case c3 => simp; omega
    intro v5 w5 hR5 hK5
    have hL5 : Below (w.heap.size + 1) w4 w5 := (((Keep.refl _ w4).alloc _).trans hK5).toBelowAt (by omega) (fun i hi => by rw [Option.mem_toList] at hi; exact (row_lt HR4.out i hi).1)
    clear hK5 c0 c1 c2 c3 c4 c5
    have HL5 := Lib.hid (HL4.out.trans (hL5.mono (by omega)))
    have hs5 : w.heap.size + 1 ≤ w5.heap.size := by have := hL5.size; omega
    have HB5 := Lib.hid (HB4.out.below hL5 (by omega)); clear hL5
    have HR5 := Lib.hid hR5; clear hR5
    have c0 := HB5.out.cell 0
    have c1 := HB5.out.cell 1
    have c2 := HB5.out.cell 2
    have c3 := HB5.out.cell 3
    have c4 := HB5.out.cell 4
    have c5 := HB5.out.cell 5
    simp only [Tc.cells, List.getElem?_cons_zero, List.getElem?_cons_succ] at c0 c1 c2 c3 c4 c5
    go_wp2_with (at_builtin; refine append_string _ rfl _ _ rfl (w.heap.size + 1) _ _ rfl HR5.out d rfl ?c1 ?c2 ?_)
    case c1 => simp [be2]; omega
    case c2 => omega
    intro v6 w6 hR6 hK6
    have hL6 : Below (w.heap.size + 1) w5 w6 := hK6.toBelowAt (by omega) (fun i hi => by rw [Option.mem_toList] at hi; exact (row_lt HR5.out i hi).1)
    clear hK6 c0 c1 c2 c3 c4 c5
    have HL6 := Lib.hid (HL5.out.trans (hL6.mono (by omega)))
    have hs6 : w.heap.size + 1 ≤ w6.heap.size := by have := hL6.size; omega
    have HB6 := Lib.hid (HB5.out.below hL6 (by omega)); clear hL6
    have HR6 := Lib.hid hR6; clear hR6
    obtain ⟨l, hl⟩ : ∃ l, l = [] ++ be2 hd ++ be2 sz ++ [UInt8.ofNat s] ++ d.data.toList := ⟨_, rfl⟩
    have HR6 := Lib.hid (show Row w6 (w.heap.size + 1) v6 l by rw [hl]; simpa using HR6.out)
    have hll : l.length ≤ 300 := by rw [hl]; simp [be2]; omega
    have HEN2 := Lib.hid (HEN.out.trans (hl.trans (by simp)).symm); clear hl
    obtain ⟨sm, hsm⟩ : ∃ sm, sm = sum16 l := ⟨_, rfl⟩
    have HSM := Lib.hid hsm; clear hsm
    have hsm3 : sm.toNat < 65536 := sm.isLt
    have hcv := run_string HR6.out
    go_wp2_with fail
    have hS := Sum16_any ⟨l.toArray⟩ w6 (by rw [size_mk]; omega)
    rw [show (ByteArray.mk l.toArray).data.toList = l from rfl, ← HSM.out, w16_def] at hS
    refine hS.mono ?_
    clear hS
    rintro e w7 ⟨rfl, hL7⟩
    clear hcv
    have hR7 := row_below HR6.out hL7 (Nat.le_refl _)
    have hL7 := hL7.mono hs6
    have HL7 := Lib.hid (HL6.out.trans (hL7.mono (by omega)))
    have hs7 : w.heap.size + 1 ≤ w7.heap.size := by have := hL7.size; omega
    have HB7 := Lib.hid (HB6.out.below hL7 (by omega)); clear hL7
    have HR7 := Lib.hid hR7; clear hR7
    go_wp2_with fail
    refine (appended_any (w.heap.size + 1) _ l sm.toNat _ hsm3 hs7 (by omega) HR7.out).mono ?_
    rintro e w8 ⟨v8, rfl, hR8, hL8⟩
    have HL8 := Lib.hid (HL7.out.trans (hL8.mono (by omega)))
    have hs8 : w.heap.size + 1 ≤ w8.heap.size := by have := hL8.size; omega
    have HB8 := Lib.hid (HB7.out.below hL8 (by omega)); clear hL8
    have HR8 := Lib.hid hR8; clear hR8
    have hcv := run_string HR8.out
    go_wp2_with fail
    go_ret2
    refine ⟨?_, HL8.out⟩
    rw [Tc.enc, HEN2.out, ← HSM.out]; rfl
  · have ho := or8192 c hc
    have ho2 := or12288 c hc
    obtain ⟨h1, hh1⟩ : ∃ h1, h1 = c + 8192 := ⟨_, rfl⟩
    have hd2 : hd = c + 8192 + 4096 := by simpa using hhd
    rw [← hh1] at ho
    rw [← hd2, ← hh1] at ho2
    have hd3 : hd < 65536 := by omega
    have hd4 : h1 < 65536 := by omega
    clear hhd hd2 hh1
    go_enter Tryz.func34, Tryz.ntmps34
    go_wp2_with fail
    refine (HV.out _).mono ?_
    rintro e w1 ⟨rfl, hL1⟩
    have HL1 := Lib.hid (HL0.out.trans (hL1.mono HL0.out.size))
    have hs1 : w.heap.size + 1 ≤ w1.heap.size := by have := hL1.size; simp at this; omega
    have HB1 := Lib.hid (HB.out.below hL1 (by simp)); clear hL1
    have c0 := HB1.out.cell 0
    have c1 := HB1.out.cell 1
    have c2 := HB1.out.cell 2
    have c3 := HB1.out.cell 3
    have c4 := HB1.out.cell 4
    have c5 := HB1.out.cell 5
    simp only [Tc.cells, List.getElem?_cons_zero, List.getElem?_cons_succ] at c0 c1 c2 c3 c4 c5
    obtain ⟨cur, hmk, hR1⟩ := make_row w1 (d.size + 7) ((d.size : Int) + 7) (by omega) (by omega)
    obtain ⟨w2, hw2⟩ : ∃ w2, w2 = w1.alloc (Obj.cells cur 5) := ⟨_, rfl⟩
    rw [← hw2] at hmk hR1
    have HL2 := Lib.hid (show Below w.heap.size w w2 by rw [hw2]; exact HL1.out.alloc HL1.out.size (Obj.cells cur 5))
    have HB2 := Lib.hid (show Blk w2 w.heap.size (Tc.mk c ch true true s d).cells 37 by rw [hw2]; exact HB1.out.alloc (Obj.cells cur 5))
    have hs2 : w.heap.size + 1 ≤ w2.heap.size := by rw [hw2]; simp; omega
    have HR2 := Lib.hid (row_mono hR1 hs1); clear hR1 hw2
    go_wp2_with fail
    refine (appended_any (w.heap.size + 1) _ [] hd _ (by omega) hs2 (by simp) HR2.out).mono ?_
    rintro e w3 ⟨v3, rfl, hR3, hL3⟩
    clear hmk c0 c1 c2 c3 c4 c5
    have HL3 := Lib.hid (HL2.out.trans (hL3.mono (by omega)))
    have hs3 : w.heap.size + 1 ≤ w3.heap.size := by have := hL3.size; omega
    have HB3 := Lib.hid (HB2.out.below hL3 (by omega)); clear hL3
    have HR3 := Lib.hid hR3; clear hR3
    have c0 := HB3.out.cell 0
    have c1 := HB3.out.cell 1
    have c2 := HB3.out.cell 2
    have c3 := HB3.out.cell 3
    have c4 := HB3.out.cell 4
    have c5 := HB3.out.cell 5
    simp only [Tc.cells, List.getElem?_cons_zero, List.getElem?_cons_succ] at c0 c1 c2 c3 c4 c5
    go_wp2_with fail
    refine (appended_any (w.heap.size + 1) _ ([] ++ be2 hd) sz _ (by omega) hs3 (by simp [be2]) HR3.out).mono ?_
    rintro e w4 ⟨v4, rfl, hR4, hL4⟩
    clear c0 c1 c2 c3 c4 c5
    have HL4 := Lib.hid (HL3.out.trans (hL4.mono (by omega)))
    have hs4 : w.heap.size + 1 ≤ w4.heap.size := by have := hL4.size; omega
    have HB4 := Lib.hid (HB3.out.below hL4 (by omega)); clear hL4
    have HR4 := Lib.hid hR4; clear hR4
    have c0 := HB4.out.cell 0
    have c1 := HB4.out.cell 1
    have c2 := HB4.out.cell 2
    have c3 := HB4.out.cell 3
    have c4 := HB4.out.cell 4
    have c5 := HB4.out.cell 5
    simp only [Tc.cells, List.getElem?_cons_zero, List.getElem?_cons_succ] at c0 c1 c2 c3 c4 c5
    go_wp2_with (at_builtin; refine append_byte _ rfl _ _ rfl (w.heap.size + 1) _ _ rfl (row_keep HR4.out ((Keep.refl [] _).alloc _) (fun _ _ => by simp)) w4.heap.size (UInt8.ofNat s) rfl ?c1 ?c2 ?c3 ?_)
    case c1 =>
      rw [HSB.out]
      exact (Blk.new w4 [vb (UInt8.ofNat s)] 5).cell 0
    case c2 => simp [be2]
    case c3 => simp; omega
    intro v5 w5 hR5 hK5
    have hL5 : Below (w.heap.size + 1) w4 w5 := (((Keep.refl _ w4).alloc _).trans hK5).toBelowAt (by omega) (fun i hi => by rw [Option.mem_toList] at hi; exact (row_lt HR4.out i hi).1)
    clear hK5 c0 c1 c2 c3 c4 c5
    have HL5 := Lib.hid (HL4.out.trans (hL5.mono (by omega)))
    have hs5 : w.heap.size + 1 ≤ w5.heap.size := by have := hL5.size; omega
    have HB5 := Lib.hid (HB4.out.below hL5 (by omega)); clear hL5
    have HR5 := Lib.hid hR5; clear hR5
    have c0 := HB5.out.cell 0
    have c1 := HB5.out.cell 1
    have c2 := HB5.out.cell 2
    have c3 := HB5.out.cell 3
    have c4 := HB5.out.cell 4
    have c5 := HB5.out.cell 5
    simp only [Tc.cells, List.getElem?_cons_zero, List.getElem?_cons_succ] at c0 c1 c2 c3 c4 c5
    go_wp2_with (at_builtin; refine append_string _ rfl _ _ rfl (w.heap.size + 1) _ _ rfl HR5.out d rfl ?c1 ?c2 ?_)
    case c1 => simp [be2]; omega
    case c2 => omega
    intro v6 w6 hR6 hK6
    have hL6 : Below (w.heap.size + 1) w5 w6 := hK6.toBelowAt (by omega) (fun i hi => by rw [Option.mem_toList] at hi; exact (row_lt HR5.out i hi).1)
    clear hK6 c0 c1 c2 c3 c4 c5
    have HL6 := Lib.hid (HL5.out.trans (hL6.mono (by omega)))
    have hs6 : w.heap.size + 1 ≤ w6.heap.size := by have := hL6.size; omega
    have HB6 := Lib.hid (HB5.out.below hL6 (by omega)); clear hL6
    have HR6 := Lib.hid hR6; clear hR6
    obtain ⟨l, hl⟩ : ∃ l, l = [] ++ be2 hd ++ be2 sz ++ [UInt8.ofNat s] ++ d.data.toList := ⟨_, rfl⟩
    have HR6 := Lib.hid (show Row w6 (w.heap.size + 1) v6 l by rw [hl]; simpa using HR6.out)
    have hll : l.length ≤ 300 := by rw [hl]; simp [be2]; omega
    have HEN2 := Lib.hid (HEN.out.trans (hl.trans (by simp)).symm); clear hl
    obtain ⟨sm, hsm⟩ : ∃ sm, sm = sum16 l := ⟨_, rfl⟩
    have HSM := Lib.hid hsm; clear hsm
    have hsm3 : sm.toNat < 65536 := sm.isLt
    have hcv := run_string HR6.out
    go_wp2_with fail
    have hS := Sum16_any ⟨l.toArray⟩ w6 (by rw [size_mk]; omega)
    rw [show (ByteArray.mk l.toArray).data.toList = l from rfl, ← HSM.out, w16_def] at hS
    refine hS.mono ?_
    clear hS
    rintro e w7 ⟨rfl, hL7⟩
    clear hcv
    have hR7 := row_below HR6.out hL7 (Nat.le_refl _)
    have hL7 := hL7.mono hs6
    have HL7 := Lib.hid (HL6.out.trans (hL7.mono (by omega)))
    have hs7 : w.heap.size + 1 ≤ w7.heap.size := by have := hL7.size; omega
    have HB7 := Lib.hid (HB6.out.below hL7 (by omega)); clear hL7
    have HR7 := Lib.hid hR7; clear hR7
    go_wp2_with fail
    refine (appended_any (w.heap.size + 1) _ l sm.toNat _ hsm3 hs7 (by omega) HR7.out).mono ?_
    rintro e w8 ⟨v8, rfl, hR8, hL8⟩
    have HL8 := Lib.hid (HL7.out.trans (hL8.mono (by omega)))
    have hs8 : w.heap.size + 1 ≤ w8.heap.size := by have := hL8.size; omega
    have HB8 := Lib.hid (HB7.out.below hL8 (by omega)); clear hL8
    have HR8 := Lib.hid hR8; clear hR8
    have hcv := run_string HR8.out
    go_wp2_with fail
    go_ret2
    refine ⟨?_, HL8.out⟩
    rw [Tc.enc, HEN2.out, ← HSM.out]; rfl
end
section
open Go.RowKit
theorem gen_post {F : Exit → Act → World → Prop} {a : Act} {W : World} (φ : World → Prop) (h : φ W) (g : ∀ w, φ w → F .normal a w) : F .normal a W := g W h
end
section
open Go.RowKit
/-- What Put answers. -/
def Tc.putV (x : Tc) : Value := if x.good then .tuple #[strOf x.enc, .int .i64 0] else .tuple #[strOf [], .int .i64 2]
/-- A good frame's fields are small naturals. -/
theorem Tc.good_nat (x : Tc) (h : x.good = true) : ∃ c ch s : Nat, c < 256 ∧ ch < 8 ∧ s < 256 ∧ 1 ≤ x.data.size ∧ x.data.size ≤ 200 ∧ (x.byp || !x.ctl) = true ∧ x = Tc.mk c ch x.byp x.ctl s x.data := by
  have h2 := (Tc.good_iff x).1 h
  obtain ⟨c, ch, b, k, s, d⟩ := x
  simp only at h2
  refine ⟨c.toNat, ch.toNat, s.toNat, by omega, by omega, by omega, h2.1.2.2.2.2.2.2.1, h2.1.2.2.2.2.2.2.2, h2.2, ?_⟩
  simp; omega
theorem Put_any (x : Tc) (w : World) : Calls Tryz.prog 34 #[x.val] w fun e w' => e = .returned x.putV ∧ Below w.heap.size w w' := by
  unfold Tc.putV
  by_cases hg : x.good = true
  · rw [if_pos hg]
    obtain ⟨c, ch, s, h1, h2, h3, h4, h5, h6, h7⟩ := x.good_nat hg
    rw [h7]
    exact Put_ok c ch s _ _ _ w h1 h2 h3 h4 h5 h6
  · rw [if_neg hg]
    exact Put_bad x w (by simpa using hg)
/-- The nothing of a frame. -/
def Tc.zero : Tc := ⟨0, 0, false, false, 0, .empty⟩
def Tc.ctlOf (c ch : Int) (d : ByteArray) : Tc := ⟨c, ch, true, true, 0, d⟩
def Tc.madeV (c ch : Int) (d : ByteArray) : Value := if (Tc.ctlOf c ch d).good then .tuple #[(Tc.ctlOf c ch d).val, .int .i64 0] else .tuple #[Tc.zero.val, .int .i64 2]
set_option maxHeartbeats 4000000 in
set_option maxRecDepth 100000 in
theorem made_any (c ch : Int) (d : ByteArray) (w : World) : Calls Tryz.prog 40 #[.int .i64 c, .int .i64 ch, .string d] w fun e w' => e = .returned (Tc.madeV c ch d) ∧ Below w.heap.size w w' := by
  have hv := valid_any (Tc.ctlOf c ch d)
  unfold Tc.madeV
  obtain ⟨g, hg⟩ : ∃ g, g = (Tc.ctlOf c ch d).good := ⟨_, rfl⟩
  rw [← hg] at hv ⊢
  simp only [Tc.val, Tc.ctlOf] at hv ⊢
  have HV := Lib.hid hv; clear hv hg
  have HL0 := Lib.hid ((Below.refl w.heap.size w).alloc (Nat.le_refl _) (Obj.cells Tc.zero.cells.toArray 37))
  have HL1 := Lib.hid (HL0.out.alloc HL0.out.size (Obj.cells (Tc.ctlOf c ch d).cells.toArray 37))
  have HZ := Lib.hid ((Blk.new w Tc.zero.cells 37).alloc (Obj.cells (Tc.ctlOf c ch d).cells.toArray 37))
  have HB := Lib.hid (Blk.new_at (w.alloc (Obj.cells Tc.zero.cells.toArray 37)) (Tc.ctlOf c ch d).cells 37 (w.heap.size + 1) (by simp))
  go_enter Tryz.func40, Tryz.ntmps40
  go_wp2_with fail
  refine (HV.out _).mono ?_
  rintro e w1 ⟨rfl, hL1⟩
  have HL2 := Lib.hid (HL1.out.trans (hL1.mono HL1.out.size))
  have hs2 : w.heap.size + 2 ≤ w1.heap.size := by have := hL1.size; simp at this; omega
  have HZ1 := Lib.hid (HZ.out.below hL1 (by simp; omega))
  have HB1 := Lib.hid (HB.out.below hL1 (by simp)); clear hL1
  have z0 := HZ1.out.cell 0
  have z1 := HZ1.out.cell 1
  have z2 := HZ1.out.cell 2
  have z3 := HZ1.out.cell 3
  have z4 := HZ1.out.cell 4
  have z5 := HZ1.out.cell 5
  have c0 := HB1.out.cell 0
  have c1 := HB1.out.cell 1
  have c2 := HB1.out.cell 2
  have c3 := HB1.out.cell 3
  have c4 := HB1.out.cell 4
  have c5 := HB1.out.cell 5
  have f0 := HZ1.out.free 0
  have f1 := HZ1.out.free 1
  have f2 := HZ1.out.free 2
  have f3 := HZ1.out.free 3
  have f4 := HZ1.out.free 4
  have f5 := HZ1.out.free 5
  simp only [Tc.cells, Tc.zero, Tc.ctlOf, List.getElem?_cons_zero, List.getElem?_cons_succ] at c0 c1 c2 c3 c4 c5 z0 z1 z2 z3 z4 z5
  cases g
  · go_wp2_with fail
    refine ret_cell_tmp rfl w.heap.size 37 Tc.zero.cells rfl ((((((HZ1.out.set 0 _).set 1 _).set 2 _).set 3 _).set 4 _).set 5 _) Tryz.underlying37 rfl (by kernel_rfl) rfl ?_
    exact ⟨rfl, (((((HL2.out.setCell (Nat.le_refl _) _).setCell (Nat.le_refl _) _).setCell (Nat.le_refl _) _).setCell (Nat.le_refl _) _).setCell (Nat.le_refl _) _).setCell (Nat.le_refl _) _⟩
  · go_wp2_with fail
    refine ret_cell_tmp rfl w.heap.size 37 (Tc.ctlOf c ch d).cells rfl ((((((HZ1.out.set 0 _).set 1 _).set 2 _).set 3 _).set 4 _).set 5 _) Tryz.underlying37 rfl (by kernel_rfl) rfl ?_
    exact ⟨rfl, (((((HL2.out.setCell (Nat.le_refl _) _).setCell (Nat.le_refl _) _).setCell (Nat.le_refl _) _).setCell (Nat.le_refl _) _).setCell (Nat.le_refl _) _).setCell (Nat.le_refl _) _⟩
end
section
open Go.RowKit
def badV : Value := .tuple #[Tc.zero.val, .int .i64 2]
theorem madeV_true (c ch : Int) (d : ByteArray) (h : (Tc.ctlOf c ch d).good = true) : Tc.madeV c ch d = .tuple #[.agg #[.int .i64 c, .int .i64 ch, .bool true, .bool true, .int .i64 0, .string d], .int .i64 0] := by unfold Tc.madeV; rw [if_pos h]; rfl
theorem madeV_false (c ch : Int) (d : ByteArray) (h : (Tc.ctlOf c ch d).good = false) : Tc.madeV c ch d = .tuple #[.agg #[.int .i64 0, .int .i64 0, .bool false, .bool false, .int .i64 0, .string ⟨#[]⟩], .int .i64 2] := by unfold Tc.madeV; rw [if_neg (by simp [h])]; rfl
/-- The data of a frame that sets the next number. -/
def snData (n : Int) : ByteArray := ⟨#[130, 0]⟩ ++ ⟨#[UInt8.ofNat (n % 256).toNat]⟩
def setNextV (c ch n : Int) : Value := if 0 ≤ n ∧ n ≤ 255 then Tc.madeV c ch (snData n) else badV
theorem sn_byte (n : Int) : n % 256 = ((UInt8.ofNat (n % 256).toNat).toNat : Int) := by rw [UInt8.toNat_ofNat']; omega
set_option maxHeartbeats 4000000 in
set_option maxRecDepth 100000 in
theorem SetNext_any (c ch n : Int) (w : World) : Calls Tryz.prog 17 #[.int .i64 c, .int .i64 ch, .int .i64 n] w fun e w' => e = .returned (setNextV c ch n) ∧ Below w.heap.size w w' := by
  have HL0 := Lib.hid ((Below.refl w.heap.size w).alloc (Nat.le_refl _) (Obj.cells Tc.zero.cells.toArray 37))
  have HZ := Lib.hid (Blk.new w Tc.zero.cells 37)
  have z0 := HZ.out.cell 0
  have z1 := HZ.out.cell 1
  have z2 := HZ.out.cell 2
  have z3 := HZ.out.cell 3
  have z4 := HZ.out.cell 4
  have z5 := HZ.out.cell 5
  simp only [Tc.cells, Tc.zero, List.getElem?_cons_zero, List.getElem?_cons_succ] at z0 z1 z2 z3 z4 z5
  have f0 := HZ.out.free 0
  have f1 := HZ.out.free 1
  have f2 := HZ.out.free 2
  have f3 := HZ.out.free 3
  have f4 := HZ.out.free 4
  have f5 := HZ.out.free 5
  unfold setNextV
  by_cases hn : 0 ≤ n ∧ n ≤ 255
  case neg =>
    rw [if_neg hn]
    by_cases h0 : n < 0
    · have h1 : decide (n < 0) = true := by simpa using h0
      go_enter Tryz.func17, Tryz.ntmps17
      go_wp2_with fail
      refine ret_cell_tmp rfl w.heap.size 37 Tc.zero.cells rfl HZ.out Tryz.underlying37 rfl (by kernel_rfl) rfl ?_
      exact ⟨rfl, HL0.out⟩
    · have h1 : decide (n < 0) = false := by simpa using h0
      have h2 : decide (255 < n) = true := by simp; omega
      go_enter Tryz.func17, Tryz.ntmps17
      go_wp2_with fail
      refine ret_cell_tmp rfl w.heap.size 37 Tc.zero.cells rfl HZ.out Tryz.underlying37 rfl (by kernel_rfl) rfl ?_
      exact ⟨rfl, HL0.out⟩
  rw [if_pos hn]
  have h1 : decide (n < 0) = false := by simp; omega
  have h2 : decide (255 < n) = false := by simp; omega
  have h3 : 0 ≤ n := hn.1
  have h4 : n ≤ 255 := hn.2
  have hm := made_any c ch (snData n)
  obtain ⟨sc, hsc⟩ : ∃ sc : ByteArray, sc = ⟨#[UInt8.ofNat (n % 256).toNat]⟩ := ⟨_, rfl⟩
  have hbs := byte_string (w.alloc (Obj.cells #[.int .i64 0, .int .i64 0, .bool false, .bool false, .int .i64 0, .string ⟨#[]⟩] 37)) n (UInt8.ofNat (n % 256).toNat) (by rw [← sn_byte]; omega)
  rw [show (w.alloc (Obj.cells #[.int .i64 0, .int .i64 0, .bool false, .bool false, .int .i64 0, .string ⟨#[]⟩] 37)).heap.size = w.heap.size + 1 by simp] at hbs
  have hsn : snData n = ⟨#[130, 0]⟩ ++ sc := by rw [hsc]; rfl
  rw [← hsc] at hbs
  rw [hsn] at hm ⊢
  have hcs : sc.size ≤ 1 := by rw [hsc]; exact Nat.le_refl _
  have HL1 := Lib.hid (HL0.out.alloc HL0.out.size (Obj.cells #[.int .u8 n] 5))
  have HZ0 := Lib.hid (HZ.out.alloc (Obj.cells #[.int .u8 n] 5))
  clear z0 z1 z2 z3 z4 z5 f0 f1 f2 f3 f4 f5
  clear hsc hn hsn
  cases hg : (Tc.ctlOf c ch (⟨#[130, 0]⟩ ++ sc)).good
  · rw [madeV_false _ _ _ hg] at hm ⊢
    have HM := Lib.hid hm; clear hm hg
    go_enter Tryz.func17, Tryz.ntmps17
    go_wp2_with fail
    refine (HM.out _).mono ?_
    rintro e w1 ⟨rfl, hL1⟩
    clear hbs
    have HL2 := Lib.hid (HL1.out.trans (hL1.mono HL1.out.size))
    have HZ1 := Lib.hid (HZ0.out.below hL1 (by simp; omega)); clear hL1
    have z0 := HZ1.out.cell 0
    have z1 := HZ1.out.cell 1
    have z2 := HZ1.out.cell 2
    have z3 := HZ1.out.cell 3
    have z4 := HZ1.out.cell 4
    have z5 := HZ1.out.cell 5
    simp only [Tc.cells, Tc.zero, List.getElem?_cons_zero, List.getElem?_cons_succ] at z0 z1 z2 z3 z4 z5
    have f0 := HZ1.out.free 0
    have f1 := HZ1.out.free 1
    have f2 := HZ1.out.free 2
    have f3 := HZ1.out.free 3
    have f4 := HZ1.out.free 4
    have f5 := HZ1.out.free 5
    go_wp2_with fail
    refine ret_cell_tmp rfl w.heap.size 37 Tc.zero.cells rfl ((((((HZ1.out.set 0 _).set 1 _).set 2 _).set 3 _).set 4 _).set 5 _) Tryz.underlying37 rfl (by kernel_rfl) rfl ?_
    exact ⟨rfl, ((((((HL2.out.setCell (Nat.le_refl _) _).setCell (Nat.le_refl _) _).setCell (Nat.le_refl _) _).setCell (Nat.le_refl _) _).setCell (Nat.le_refl _) _).setCell (Nat.le_refl _) _)⟩
  · rw [madeV_true _ _ _ hg] at hm ⊢
    have HM := Lib.hid hm; clear hm hg
    go_enter Tryz.func17, Tryz.ntmps17
    go_wp2_with fail
    refine (HM.out _).mono ?_
    rintro e w1 ⟨rfl, hL1⟩
    clear hbs
    have HL2 := Lib.hid (HL1.out.trans (hL1.mono HL1.out.size))
    have HZ1 := Lib.hid (HZ0.out.below hL1 (by simp; omega)); clear hL1
    have z0 := HZ1.out.cell 0
    have z1 := HZ1.out.cell 1
    have z2 := HZ1.out.cell 2
    have z3 := HZ1.out.cell 3
    have z4 := HZ1.out.cell 4
    have z5 := HZ1.out.cell 5
    simp only [Tc.cells, Tc.zero, List.getElem?_cons_zero, List.getElem?_cons_succ] at z0 z1 z2 z3 z4 z5
    have f0 := HZ1.out.free 0
    have f1 := HZ1.out.free 1
    have f2 := HZ1.out.free 2
    have f3 := HZ1.out.free 3
    have f4 := HZ1.out.free 4
    have f5 := HZ1.out.free 5
    go_wp2_with fail
    refine ret_cell_tmp rfl w.heap.size 37 (Tc.ctlOf c ch (⟨#[130, 0]⟩ ++ sc)).cells rfl ((((((HZ1.out.set 0 _).set 1 _).set 2 _).set 3 _).set 4 _).set 5 _) Tryz.underlying37 rfl (by kernel_rfl) rfl ?_
    exact ⟨rfl, ((((((HL2.out.setCell (Nat.le_refl _) _).setCell (Nat.le_refl _) _).setCell (Nat.le_refl _) _).setCell (Nat.le_refl _) _).setCell (Nat.le_refl _) _).setCell (Nat.le_refl _) _)⟩
end
section
open Go.RowKit
section
variable {P : Program}
theorem step_call {ops : Array Oper} {o : Oper} {a : Act} {w : World} {K : Act → World → Prop} {Q : Exit → Act → World → Prop} {E : Prop}
    (hg : o.guard = none) (f : FuncId) (ops' : Array Operand) (ts : Array TypeId) (hop : o.op = Op.call { callee := Callee.value (Operand.func f), args := ops', argTypes := ts }) (args : Array Value) (hrun : (execOp a.eval o).run P w = .ok (.enter f args) w) (R : Value → World → Prop) (hc : Calls P f args w fun e w' => ∃ v, e = .returned v ∧ R v w')
    (hK : ∀ v w', R v w' → K (a.put o.dst v) w') :
    if Region.wanted o (yielded ops a.tmps) = true then Oper.wp P o a w K Q else E := by
  have hw : Region.wanted o (yielded ops a.tmps) = true := by simp [Region.wanted, hg]
  rw [if_pos hw]
  unfold Oper.wp
  rw [hrun, Oper.upon_enter]
  refine hc.mono fun e w'' hh => ?_
  obtain ⟨v, rfl, hR⟩ := hh
  exact hK _ _ hR
end
end
section
open Go.RowKit
section
theorem and255n : ∀ n : Nat, n < 512 → bits .and .i64 (n : Int) 255 = (n : Int) % 256 := by decide +kernel
theorem and255w (d : Int) (h0 : 0 ≤ d) (h1 : d < 512) : bits .and .i64 d 255 = d % 256 := by
  have := and255n d.toNat (by omega)
  rw [show ((d.toNat : Nat) : Int) = d by omega] at this
  exact this
set_option maxHeartbeats 2000000 in
set_option maxRecDepth 100000 in
theorem frame_in (n : Int) (d : ByteArray) (s : Fs) (g : Nat) (S : List Nat) (w : World) (h0 : 0 ≤ n) (h1 : n < 512) (h : FopIn w g S s) :
    Calls Tryz.prog 55 #[.pointer (some ⟨g, 0, none⟩), .int .i64 n, .string d] w fun e w' => e = .returned (.agg #[.int .i64 s.craft, .int .i64 s.chan, .bool false, .bool false, .int .i64 (n % 256), .string d]) ∧ Below w.heap.size w w' := by
  have hb := and255w n h0 h1
  obtain ⟨ve, vw, vs, vb, hF, hS⟩ := h
  have HB := Lib.hid (hF.blk.alloc (Obj.cells #[.int .i64 0, .int .i64 0, .bool false, .bool false, .int .i64 0, .string ⟨#[]⟩] 37))
  have HR := Lib.hid (Blk.new w [.int .i64 0, .int .i64 0, .bool false, .bool false, .int .i64 0, .string ⟨#[]⟩] 37)
  have HL := Lib.hid ((Below.refl w.heap.size w).alloc (Nat.le_refl _) (Obj.cells #[.int .i64 0, .int .i64 0, .bool false, .bool false, .int .i64 0, .string ⟨#[]⟩] 37))
  clear hF hS
  have c1 := HB.out.cell 1; have c2 := HB.out.cell 2
  simp only [Fs.cells, List.getElem?_cons_zero, List.getElem?_cons_succ] at c1 c2
  have r0 := HR.out.cell 0
  have r1 := HR.out.cell 1
  have r2 := HR.out.cell 2
  have r3 := HR.out.cell 3
  have r4 := HR.out.cell 4
  have r5 := HR.out.cell 5
  simp only [List.getElem?_cons_zero, List.getElem?_cons_succ] at r0 r1 r2 r3 r4 r5
  have f0 := HR.out.free 0
  have f1 := HR.out.free 1
  have f2 := HR.out.free 2
  have f3 := HR.out.free 3
  have f4 := HR.out.free 4
  have f5 := HR.out.free 5
  go_enter Tryz.func55, Tryz.ntmps55
  go_wp2_with fail
  refine still_tail 12 (by kernel_rfl) (by kernel_rfl) ?_
  simp only [List.take_succ_cons, List.take_zero, List.drop_succ_cons, List.drop_zero]
  repeat still_step
  refine wpStill_nil ?_
  go_wp2_with fail
  refine ret_cell rfl w.heap.size 37 [.int .i64 s.craft, .int .i64 s.chan, .bool false, .bool false, .int .i64 (n % 256), .string d] rfl (Blk.new w [.int .i64 s.craft, .int .i64 s.chan, .bool false, .bool false, .int .i64 (n % 256), .string d] 37).drew Tryz.underlying37 rfl (by kernel_rfl) rfl ?_
  exact ⟨rfl, ((Below.refl w.heap.size w).alloc (Nat.le_refl _) _).drew⟩
end
section
theorem blk_setCells (b : Nat) (t : TypeId) : ∀ (vs pre old : List Value) (w : World), old.length = vs.length → Blk w b (pre ++ old) t → Blk (w.setCells b pre.length vs) b (pre ++ vs) t
  | [], pre, old, w, hl, h => by
    obtain rfl : old = [] := List.eq_nil_of_length_eq_zero (by simpa using hl)
    exact h
  | v :: vs, pre, [], w, hl, h => by simp at hl
  | v :: vs, pre, x :: old, w, hl, h => by
    have h2 := h.set pre.length v
    have e : (pre ++ x :: old).set pre.length v = (pre ++ [v]) ++ old := by simp
    rw [e] at h2
    have := blk_setCells b t vs (pre ++ [v]) old (w.setCell ⟨b, pre.length, none⟩ v) (by simpa using hl) h2
    rw [show (pre ++ [v]).length = pre.length + 1 by simp, List.append_assoc] at this
    exact this
theorem keep_setCells (b : Nat) (S : List Nat) : ∀ (vs : List Value) (o : Nat) (a w : World), Keep S a w → (b ∈ S ∨ a.heap.size ≤ b) → Keep S a (w.setCells b o vs)
  | [], _, _, _, h, _ => h
  | v :: vs, o, a, w, h, hb => keep_setCells b S vs (o + 1) a _ (h.setCell hb v) hb
/-- A value of many cells is stored in a block of the call's own. -/
theorem store_blk {ops : Array Oper} {rest : List Oper} {op : Oper} {a : Act} {w : World} {Q : Exit → Act → World → Prop} (hgd : op.guard = none) (ty : TypeId) (x y : Operand) (ho : op.op = .store ty x y)
    (b : Nat) (t : TypeId) (old news : List Value) (hx : a.eval x = .pointer (some ⟨b, 0, none⟩)) (hy : a.eval y = .agg news.toArray) (hB : Blk w b old t) (hl : old.length = news.length)
    (hi : (Tryz.prog.info? ty).map (·.size) = some news.length) (h1 : news.toArray.all (·.oneCell') = true)
    (h : ∀ w', Blk w' b news t → Keep [b] w w' → wpList Tryz.prog ops Q rest (a.put op.dst undef) w') : wpList Tryz.prog ops Q (op :: rest) a w := by
  refine wpList_store_mid hgd ty x y ho b 0 news.toArray hx hy (fun j hj => ⟨?_, ?_⟩) (by simpa using hi) h1 ?_
  · have hj : j < old.length := by simp at hj; omega
    rw [Nat.zero_add, hB.cell j, List.getElem?_eq_getElem hj]; rfl
  · rw [Nat.zero_add]; exact hB.free j
  · exact h _ (blk_setCells b t news [] old w hl hB) (keep_setCells b [b] news 0 w w (Keep.refl _ _) (.inl (by simp)))
/-- The same as a step of a region that draws its order. -/
theorem step_store_blk {ops : Array Oper} {op : Oper} {a : Act} {w : World} {K : Act → World → Prop} {Q : Exit → Act → World → Prop} {E : Prop} (hgd : op.guard = none) (ty : TypeId) (x y : Operand) (ho : op.op = .store ty x y)
    (b : Nat) (t : TypeId) (old news : List Value) (hx : a.eval x = .pointer (some ⟨b, 0, none⟩)) (hy : a.eval y = .agg news.toArray) (hB : Blk w b old t) (hl : old.length = news.length)
    (hi : (Tryz.prog.info? ty).map (·.size) = some news.length) (h1 : news.toArray.all (·.oneCell') = true)
    (h : ∀ w', Blk w' b news t → Keep [b] w w' → K (a.put op.dst undef) w') : if Region.wanted op (yielded ops a.tmps) = true then Oper.wp Tryz.prog op a w K Q else E := by
  have hw : Region.wanted op (yielded ops a.tmps) = true := by simp [Region.wanted, hgd]
  rw [if_pos hw]
  refine wp_store_mid ty x y ho b 0 news.toArray hx hy (fun j hj => ⟨?_, ?_⟩) (by simpa using hi) h1 ?_
  · have hj : j < old.length := by simp at hj; omega
    rw [Nat.zero_add, hB.cell j, List.getElem?_eq_getElem hj]; rfl
  · rw [Nat.zero_add]; exact hB.free j
  · exact h _ (blk_setCells b t news [] old w hl hB) (keep_setCells b [b] news 0 w w (Keep.refl _ _) (.inl (by simp)))
end
section
/-- Blocks that are new, and not the automaton's, have changed. -/
theorem Pt.far {w W W' : World} {g : Nat} {S S1 : List Nat} {s : Fs} {T : List Nat} (h : Pt w W g S S1 s) (k : Keep T W W') (hT : ∀ i ∈ T, w.heap.size ≤ i) (hS : ∀ i ∈ S1, i < W.heap.size → i ∉ T) : Pt w W' g S S1 s :=
  ⟨h.in_.keep k hS, h.keep.trans_new k (fun i hi => .inr (hT i hi)), h.new⟩
theorem FopIn.small {w : World} {g : Nat} {S : List Nat} {s : Fs} (h : FopIn w g S s) : ∃ S0, FopIn w g S0 s ∧ (∀ i ∈ S0, i < w.heap.size) ∧ ∀ i ∈ S0, i ∈ S := by
  obtain ⟨ve, vw, vs, vb, hF, hS⟩ := h
  exact ⟨own g ve vw vs vb, ⟨ve, vw, vs, vb, hF, fun _ h => h⟩, hF.lt, hS⟩
theorem Pt.trans_far {w W W' : World} {g r : Nat} {S S1 : List Nat} {s s' : Fs} (h : Pt w W g S S1 s) (k : FopTo W W' g S1 s') (hr : r < W.heap.size) (hn : r ∉ S1) : ∃ S2, Pt w W' g S S2 s' ∧ r ∉ S2 ∧ ∀ i ∈ S2, i < W'.heap.size := by
  obtain ⟨S2, k1, k2, k3⟩ := k
  obtain ⟨S3, l1, l2, l3⟩ := k1.small
  refine ⟨S3, ⟨l1, h.keep.trans_new k2 h.new, fun x hx => ?_⟩, fun hm => ?_, l2⟩
  · rcases k3 x (l3 x hx) with e | e
    · exact h.new x e
    · exact .inr (Nat.le_trans h.keep.size e)
  · rcases k3 r (l3 r hm) with e | e
    · exact hn e
    · omega
theorem Blk.in_keep {W W' : World} {b : Nat} {vs : List Value} {t : TypeId} {g : Nat} {S : List Nat} {s' : Fs} (h : Blk W b vs t) (hb : b ∉ S) (k : FopTo W W' g S s') : Blk W' b vs t := by
  obtain ⟨_, _, k, _⟩ := k
  exact h.keep k hb
section
variable (s : Fs) (g : Nat) (S : List Nat) (w : World)
set_option maxHeartbeats 2000000 in
set_option maxRecDepth 100000 in
theorem Next_down (hSl : ∀ i ∈ S, i < w.heap.size) (hdue : s.due = false) (hsp : s.susp = false) (hbp : s.byp = []) (hs : s.service ≠ 2 ∨ s.held = true) (hw : s.window ≠ 0) (h : FopIn w g S s) :
    Calls Tryz.prog 33 #[.pointer (some ⟨g, 0, none⟩)] w fun e w' => e = .returned (.tuple #[.agg #[.int .i64 0, .int .i64 0, .bool false, .bool false, .int .i64 0, .string ⟨#[]⟩], .bool false]) ∧ FopTo w w' g S s := by
  have k1 : ¬ (0 : Int) < (s.byp.length : Int) := by simp [hbp]
  clear hbp
  have HQ := Lib.hid hs; clear hs
  have HW0 := Lib.hid (show (s.window == 0) = false by simpa using hw)
  have HT := Lib.hid ((Pt.refl h).keepB ((Below.refl w.heap.size w).alloc (Nat.le_refl _) (Obj.cells #[.int .i64 0, .int .i64 0, .bool false, .bool false, .int .i64 0, .string ⟨#[]⟩] 37)))
  have HR := Lib.hid (Blk.new w [.int .i64 0, .int .i64 0, .bool false, .bool false, .int .i64 0, .string ⟨#[]⟩] 37)
  have HSL := Lib.hid hSl
  clear h hw hSl
  go_enter Tryz.func33, Tryz.ntmps33
  go_upto_region 1 with fail
  refine gen_world (fun W => Pt w W g S S s ∧ Blk W w.heap.size [.int .i64 0, .int .i64 0, .bool false, .bool false, .int .i64 0, .string ⟨#[]⟩] 37) ⟨HT.out, HR.out⟩ ?_
  clear HT HR
  rintro w1 ⟨hT, hR⟩
  have HT := Lib.hid hT; have HR := Lib.hid hR; clear hT hR
  go_wp2_with fail
  refine (foNone_in s g S _ false HW0.out HT.out.in_).mono ?_
  rintro e _ ⟨rfl, rfl⟩
  obtain ⟨ve, vw, vs, vb, hF, hS⟩ := HT.out.in_
  have HF := Lib.hid hF; have HS := Lib.hid hS; have HB := Lib.hid hF.blk; clear hF hS
  have c16 := HB.out.cell 16
  have c6 := HB.out.cell 6
  have c18 := HB.out.cell 18
  have c19 := HB.out.cell 19
  simp only [Fs.cells, List.getElem?_cons_zero, List.getElem?_cons_succ] at c16 c6 c18 c19
  rw [hdue] at c16
  rw [hsp] at c19
  clear hdue hsp
  go_wp2_with fail
  refine (lenB_in s g S _ HT.out.in_).mono ?_
  rintro e _ ⟨rfl, rfl⟩
  by_cases h2 : s.service = 2
  · have hh : s.held = true := by
      rcases HQ.out with h | h
      · exact absurd h2 h
      · exact h
    have k2 : (s.service != 2) = false := by simpa using h2
    rw [hh] at c18
    clear hh h2
    go_wp2_with (refine store_blk rfl _ _ _ rfl w.heap.size 37 _ [.int .i64 0, .int .i64 0, .bool false, .bool false, .int .i64 0, .string ⟨#[]⟩] rfl rfl HR.out rfl (by kernel_rfl) (by kernel_rfl) ?_)
    intro w9 hR9 hK9
    go_wp2_with fail
    refine ret_cell_tmp rfl w.heap.size 37 [.int .i64 0, .int .i64 0, .bool false, .bool false, .int .i64 0, .string ⟨#[]⟩] rfl hR9 Tryz.underlying37 rfl (by kernel_rfl) rfl ?_
    exact ⟨rfl, (HT.out.far hK9 (fun i hi => by simp at hi; subst hi; exact Nat.le_refl _) (fun i hi _ h => by simp at h; have := HSL.out i hi; omega)).to⟩
  · have k2 : (s.service != 2) = true := by simpa using h2
    clear h2
    go_wp2_with (refine store_blk rfl _ _ _ rfl w.heap.size 37 _ [.int .i64 0, .int .i64 0, .bool false, .bool false, .int .i64 0, .string ⟨#[]⟩] rfl rfl HR.out rfl (by kernel_rfl) (by kernel_rfl) ?_)
    intro w9 hR9 hK9
    go_wp2_with fail
    refine ret_cell_tmp rfl w.heap.size 37 [.int .i64 0, .int .i64 0, .bool false, .bool false, .int .i64 0, .string ⟨#[]⟩] rfl hR9 Tryz.underlying37 rfl (by kernel_rfl) rfl ?_
    exact ⟨rfl, (HT.out.far hK9 (fun i hi => by simp at hi; subst hi; exact Nat.le_refl _) (fun i hi _ h => by simp at h; have := HSL.out i hi; omega)).to⟩
set_option maxHeartbeats 2000000 in
set_option maxRecDepth 100000 in
theorem Next_byp (d : ByteArray) (l : List ByteArray) (hSl : ∀ i ∈ S, i < w.heap.size) (hdue : s.due = false) (hsp : s.susp = false) (hbp : s.byp = d :: l) (hl : l.length ≤ 1000000) (hw : s.window ≠ 0) (h : FopIn w g S s) :
    Calls Tryz.prog 33 #[.pointer (some ⟨g, 0, none⟩)] w fun e w' => e = .returned (.tuple #[.agg #[.int .i64 s.craft, .int .i64 s.chan, .bool true, .bool false, .int .i64 0, .string d], .bool true]) ∧ FopTo w w' g S { s with byp := l } := by
  have k1 : (0 : Int) < (s.byp.length : Int) := by rw [hbp]; simp only [List.length_cons]; omega
  have HBP := Lib.hid hbp; clear hbp
  have HW0 := Lib.hid (show (s.window == 0) = false by simpa using hw)
  have HT := Lib.hid ((Pt.refl h).keepB ((Below.refl w.heap.size w).alloc (Nat.le_refl _) (Obj.cells #[.int .i64 0, .int .i64 0, .bool false, .bool false, .int .i64 0, .string ⟨#[]⟩] 37)))
  have HR := Lib.hid (Blk.new w [.int .i64 0, .int .i64 0, .bool false, .bool false, .int .i64 0, .string ⟨#[]⟩] 37)
  have HSL := Lib.hid hSl
  clear h hw hSl
  go_enter Tryz.func33, Tryz.ntmps33
  go_upto_region 1 with fail
  refine gen_world (fun W => Pt w W g S S s ∧ Blk W w.heap.size [.int .i64 0, .int .i64 0, .bool false, .bool false, .int .i64 0, .string ⟨#[]⟩] 37) ⟨HT.out, HR.out⟩ ?_
  clear HT HR
  rintro w1 ⟨hT, hR⟩
  have HT := Lib.hid hT; have HR := Lib.hid hR; clear hT hR
  go_wp2_with fail
  refine (foNone_in s g S _ false HW0.out HT.out.in_).mono ?_
  rintro e _ ⟨rfl, rfl⟩
  obtain ⟨ve, vw, vs, vb, hF, hS⟩ := HT.out.in_
  have HF := Lib.hid hF; have HS := Lib.hid hS; have HB := Lib.hid hF.blk; clear hF hS
  have c16 := HB.out.cell 16
  have c6 := HB.out.cell 6
  have c18 := HB.out.cell 18
  have c19 := HB.out.cell 19
  simp only [Fs.cells, List.getElem?_cons_zero, List.getElem?_cons_succ] at c16 c6 c18 c19
  rw [hdue] at c16
  rw [hsp] at c19
  clear hdue hsp
  go_wp2_with fail
  refine (lenB_in s g S _ HT.out.in_).mono ?_
  rintro e _ ⟨rfl, rfl⟩
  clear HF HS HB c16 c6 c18 c19
  go_wp2_with fail
  refine (popB_in d l s g S _ HBP.out hl HT.out.in_).mono ?_
  rintro e w2 ⟨rfl, hT⟩
  have hR1 := HR.out.lt
  replace HR := Lib.hid (HR.out.in_keep (fun h => absurd (HSL.out _ h) (Nat.lt_irrefl _)) hT)
  obtain ⟨S1, hT, hn1, hl1⟩ := HT.out.trans_far hT hR1 (fun h => absurd (HSL.out _ h) (Nat.lt_irrefl _))
  replace HT := Lib.hid hT; clear hT hR1
  have HN1 := Lib.hid hn1; have HL1 := Lib.hid hl1; clear hn1 hl1
  go_wp2_with fail
  refine (frame_in 0 d _ g S1 _ (by omega) (by omega) HT.out.in_).mono ?_
  rintro e w3 ⟨rfl, hL⟩
  replace HR := Lib.hid (HR.out.below hL HR.out.lt)
  replace HT := Lib.hid (HT.out.keepB hL)
  replace HL1 := Lib.hid (fun i hi => Nat.lt_of_lt_of_le (HL1.out i hi) hL.size)
  clear hL
  obtain ⟨b, hb⟩ : ∃ b, b = w3.heap.size := ⟨_, rfl⟩
  go_upto_region 11 with fail
  rw [← hb]
  refine gen_world (fun W => Pt w W g S S1 { s with byp := l } ∧ Blk W w.heap.size [.int .i64 0, .int .i64 0, .bool false, .bool false, .int .i64 0, .string ⟨#[]⟩] 37 ∧ Blk W b [.int .i64 s.craft, .int .i64 s.chan, .bool false, .bool false, .int .i64 (0 % 256), .string d] 37 ∧ w.heap.size < b) ⟨HT.out.keepB ((Below.refl _ _).alloc (Nat.le_refl _) _), HR.out.alloc _, by rw [hb]; exact Blk.new w3 [.int .i64 s.craft, .int .i64 s.chan, .bool false, .bool false, .int .i64 (0 % 256), .string d] 37, by rw [hb]; exact HR.out.lt⟩ ?_
  have HBS := Lib.hid (fun (h : b ∈ S1) => (by have := HL1.out b h; omega : False))
  clear HT HR hb HL1
  rintro w4 ⟨hT, hR, hF, hlt⟩
  have HT := Lib.hid hT; have HR := Lib.hid hR; have HF := Lib.hid hF; clear hT hR hF
  have x0 := HF.out.cell 0
  have x1 := HF.out.cell 1
  have x2 := HF.out.cell 2
  have x3 := HF.out.cell 3
  have x4 := HF.out.cell 4
  have x5 := HF.out.cell 5
  simp only [List.getElem?_cons_zero, List.getElem?_cons_succ] at x0 x1 x2 x3 x4 x5
  have y0 := HF.out.free 0
  have y1 := HF.out.free 1
  have y2 := HF.out.free 2
  have y3 := HF.out.free 3
  have y4 := HF.out.free 4
  have y5 := HF.out.free 5
  go_wp2_with (refine store_blk rfl _ _ _ rfl w.heap.size 37 _ [.int .i64 s.craft, .int .i64 s.chan, .bool true, .bool false, .int .i64 0, .string d] rfl rfl (HR.out.set_far (by simp; omega) _) rfl (by kernel_rfl) (by kernel_rfl) ?_)
  intro w9 hR9 hK9
  go_wp2_with fail
  refine ret_cell_tmp rfl w.heap.size 37 [.int .i64 s.craft, .int .i64 s.chan, .bool true, .bool false, .int .i64 0, .string d] rfl hR9 Tryz.underlying37 rfl (by kernel_rfl) rfl ?_
  refine ⟨rfl, ((HT.out.far ((Keep.refl [b] w4).setCell (p := ⟨b, 2, none⟩) (.inl (by simp)) _) (fun i hi => by simp at hi; omega) (fun i hi _ h => by simp at h; subst h; exact HBS.out hi)).far hK9 (fun i hi => by simp at hi; subst hi; exact Nat.le_refl _) (fun i hi _ h => by simp at h; subst h; exact HN1.out hi)).to⟩
end
end
end
end Go.Proofs.YtgopighmifpefaaGreatDoor
