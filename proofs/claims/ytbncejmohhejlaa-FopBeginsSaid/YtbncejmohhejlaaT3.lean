/- What is proved here: the walks of the two functions that encode a frame. -/
import Derived.Test.YtbncejmohhejlaaT2
set_option linter.unusedVariables false
set_option linter.unusedSimpArgs false
namespace Go.Proofs.Ytbncejmohhejlaa
open Go.RowKit
def Tc.headN (x : Tc) : Nat := x.craft.toNat + (if x.byp then 8192 else 0) + (if x.ctl then 4096 else 0)
def Tc.sizeN (x : Tc) : Nat := x.chan.toNat * 1024 + (x.data.size + 6)
def Tc.body (x : Tc) : List UInt8 := be2 x.headN ++ be2 x.sizeN ++ [UInt8.ofNat x.seq.toNat] ++ x.data.data.toList
def Tc.enc (x : Tc) : List UInt8 := x.body ++ be2 (sum16 x.body).toNat
theorem or8192 : ∀ c : Nat, c < 256 → bits .or .i64 (c : Int) 8192 = ((c + 8192 : Nat) : Int) := by decide +kernel
theorem or4096 : ∀ c : Nat, c < 256 → bits .or .i64 (c : Int) 4096 = ((c + 4096 : Nat) : Int) := by decide +kernel
theorem or12288 : ∀ c : Nat, c < 256 → bits .or .i64 ((c + 8192 : Nat) : Int) 4096 = ((c + 8192 + 4096 : Nat) : Int) := by decide +kernel
theorem or1024 : ∀ a : Nat, a < 8 → ∀ c : Nat, c < 256 → bits .or .i64 ((a * 1024 : Nat) : Int) (c : Int) = ((a * 1024 + c : Nat) : Int) := by decide +kernel
attribute [local go_sem] run_bytes bytes_size
set_option maxHeartbeats 4000000 in
set_option maxRecDepth 100000 in
theorem Put_bad (x : Tc) (w : World) (hg : x.good = false) : Calls Try.prog 58 #[x.val] w fun e w' => e = .returned (.tuple #[strOf [], .int .i64 2]) ∧ Below w.heap.size w w' := by
  have hv := valid_any x
  rw [hg] at hv
  obtain ⟨c, ch, b, k, s, d⟩ := x
  simp only [Tc.val] at hv ⊢
  have HV := Lib.hid hv; clear hv hg
  go_enter Try.func58, Try.ntmps58
  go_wp2_with fail
  refine (HV.out _).mono ?_
  rintro e w1 ⟨rfl, hL1⟩
  have HL0 := Lib.hid ((Below.refl w.heap.size w).alloc (Nat.le_refl _) (Obj.cells #[.int .i64 c, .int .i64 ch, .bool b, .bool k, .int .i64 s, .string d] 31))
  have HL1 := Lib.hid (HL0.out.trans (hL1.mono HL0.out.size)); clear hL1
  go_wp2_with fail
  go_ret2
  exact ⟨rfl, HL1.out⟩
set_option maxHeartbeats 8000000 in
set_option maxRecDepth 100000 in
theorem Put_ok (c ch s : Nat) (b k : Bool) (d : ByteArray) (w : World) (hc : c < 256) (hch : ch < 8) (hs : s < 256) (hd1 : 1 ≤ d.size) (hd2 : d.size ≤ 200) (hbk : (b || !k) = true) :
    Calls Try.prog 58 #[(Tc.mk c ch b k s d).val] w fun e w' => e = .returned (.tuple #[strOf (Tc.mk c ch b k s d).enc, .int .i64 0]) ∧ Below w.heap.size w w' := by
  have hg : (Tc.mk c ch b k s d).good = true := by rw [Tc.good_iff]; simp [hbk]; omega
  have hv := valid_any (Tc.mk c ch b k s d)
  rw [hg] at hv
  have hsb : ((s : Nat) : Int) = ((UInt8.ofNat s).toNat : Int) := by rw [UInt8.toNat_ofNat']; omega
  have HSB := Lib.hid hsb; clear hsb
  obtain ⟨sz, hsz⟩ : ∃ sz, sz = ch * 1024 + (d.size + 6) := ⟨_, rfl⟩
  have ho4 : bits .or .i64 ((ch : Int) * 1024) ((d.size : Int) + 7 - 1) = (sz : Int) := by
    have h := or1024 ch hch (d.size + 6) (by omega)
    rw [show ((ch * 1024 : Nat) : Int) = (ch : Int) * 1024 by simp, show ((d.size + 6 : Nat) : Int) = (d.size : Int) + 7 - 1 by omega, ← hsz] at h
    exact h
  have hsz2 : sz < 65536 := by omega
  have HSZ := Lib.hid hsz; clear hsz
  have HB := Lib.hid (Blk.new w (Tc.mk c ch b k s d).cells 31)
  have HL0 := Lib.hid ((Below.refl w.heap.size w).alloc (Nat.le_refl _) (Obj.cells #[.int .i64 c, .int .i64 ch, .bool b, .bool k, .int .i64 s, .string d] 31))
  obtain ⟨hd, hhd⟩ : ∃ hd, hd = c + (if b then 8192 else 0) + (if k then 4096 else 0) := ⟨_, rfl⟩
  have hen : (Tc.mk c ch b k s d).body = be2 hd ++ be2 sz ++ [UInt8.ofNat s] ++ d.data.toList := by
    rw [hhd, HSZ.out]; simp [Tc.body, Tc.headN, Tc.sizeN]
  have HEN := Lib.hid hen; clear hen
  simp only [Tc.val] at hv ⊢
  have HV := Lib.hid hv; clear hv hg
  cases b <;> cases k
  · have hd2 : hd = c := by simpa using hhd
    clear hhd
    subst hd2
    go_enter Try.func58, Try.ntmps58
    go_wp2_with fail
    refine (HV.out _).mono ?_
    rintro e w1 ⟨rfl, hL1⟩
    have HL1 := Lib.hid (HL0.out.trans (hL1.mono HL0.out.size))
    have hs1 : w.heap.size + 1 ≤ w1.heap.size := by have := hL1.size; simp at this; omega
    have HB1 := Lib.hid (HB.out.below hL1 (by simp)); clear hL1
    have c0 := HB1.out.cell 0
    have c1 := HB1.out.cell 1
    have c2 := HB1.out.cell 2
    have c3 := HB1.out.cell 3
    have c4 := HB1.out.cell 4
    have c5 := HB1.out.cell 5
    simp only [Tc.cells, List.getElem?_cons_zero, List.getElem?_cons_succ] at c0 c1 c2 c3 c4 c5
    obtain ⟨cur, hmk, hR1⟩ := make_row w1 (d.size + 7) ((d.size : Int) + 7) (by omega) (by omega)
    obtain ⟨w2, hw2⟩ : ∃ w2, w2 = w1.alloc (Obj.cells cur 5) := ⟨_, rfl⟩
    rw [← hw2] at hmk hR1
    have HL2 := Lib.hid (show Below w.heap.size w w2 by rw [hw2]; exact HL1.out.alloc HL1.out.size (Obj.cells cur 5))
    have HB2 := Lib.hid (show Blk w2 w.heap.size (Tc.mk hd ch false false s d).cells 31 by rw [hw2]; exact HB1.out.alloc (Obj.cells cur 5))
    have hs2 : w.heap.size + 1 ≤ w2.heap.size := by rw [hw2]; simp; omega
    have HR2 := Lib.hid (row_mono hR1 hs1); clear hR1 hw2
    go_wp2_with fail
    refine (appended_any (w.heap.size + 1) _ [] hd _ (by omega) hs2 (by simp) HR2.out).mono ?_
    rintro e w3 ⟨v3, rfl, hR3, hL3⟩
    clear hmk c0 c1 c2 c3 c4 c5
    have HL3 := Lib.hid (HL2.out.trans (hL3.mono (by omega)))
    have hs3 : w.heap.size + 1 ≤ w3.heap.size := by have := hL3.size; omega
    have HB3 := Lib.hid (HB2.out.below hL3 (by omega)); clear hL3
    have HR3 := Lib.hid hR3; clear hR3
    have c0 := HB3.out.cell 0
    have c1 := HB3.out.cell 1
    have c2 := HB3.out.cell 2
    have c3 := HB3.out.cell 3
    have c4 := HB3.out.cell 4
    have c5 := HB3.out.cell 5
    simp only [Tc.cells, List.getElem?_cons_zero, List.getElem?_cons_succ] at c0 c1 c2 c3 c4 c5
    go_wp2_with fail
    refine (appended_any (w.heap.size + 1) _ ([] ++ be2 hd) sz _ (by omega) hs3 (by simp [be2]) HR3.out).mono ?_
    rintro e w4 ⟨v4, rfl, hR4, hL4⟩
    clear c0 c1 c2 c3 c4 c5
    have HL4 := Lib.hid (HL3.out.trans (hL4.mono (by omega)))
    have hs4 : w.heap.size + 1 ≤ w4.heap.size := by have := hL4.size; omega
    have HB4 := Lib.hid (HB3.out.below hL4 (by omega)); clear hL4
    have HR4 := Lib.hid hR4; clear hR4
    have c0 := HB4.out.cell 0
    have c1 := HB4.out.cell 1
    have c2 := HB4.out.cell 2
    have c3 := HB4.out.cell 3
    have c4 := HB4.out.cell 4
    have c5 := HB4.out.cell 5
    simp only [Tc.cells, List.getElem?_cons_zero, List.getElem?_cons_succ] at c0 c1 c2 c3 c4 c5
    go_wp2_with (at_builtin; refine append_byte _ rfl _ _ rfl (w.heap.size + 1) _ _ rfl (row_keep HR4.out ((Keep.refl [] _).alloc _) (fun _ _ => by simp)) w4.heap.size (UInt8.ofNat s) rfl ?c1 ?c2 ?c3 ?_)
    case c1 =>
      rw [HSB.out]
      exact (Blk.new w4 [vb (UInt8.ofNat s)] 5).cell 0
    case c2 => simp [be2]
    case c3 => simp; omega
    intro v5 w5 hR5 hK5
    have hL5 : Below (w.heap.size + 1) w4 w5 := (((Keep.refl _ w4).alloc _).trans hK5).toBelowAt (by omega) (fun i hi => by rw [Option.mem_toList] at hi; exact (row_lt HR4.out i hi).1)
    clear hK5 c0 c1 c2 c3 c4 c5
    have HL5 := Lib.hid (HL4.out.trans (hL5.mono (by omega)))
    have hs5 : w.heap.size + 1 ≤ w5.heap.size := by have := hL5.size; omega
    have HB5 := Lib.hid (HB4.out.below hL5 (by omega)); clear hL5
    have HR5 := Lib.hid hR5; clear hR5
    have c0 := HB5.out.cell 0
    have c1 := HB5.out.cell 1
    have c2 := HB5.out.cell 2
    have c3 := HB5.out.cell 3
    have c4 := HB5.out.cell 4
    have c5 := HB5.out.cell 5
    simp only [Tc.cells, List.getElem?_cons_zero, List.getElem?_cons_succ] at c0 c1 c2 c3 c4 c5
    go_wp2_with (at_builtin; refine append_string _ rfl _ _ rfl (w.heap.size + 1) _ _ rfl HR5.out d rfl ?c1 ?c2 ?_)
    case c1 => simp [be2]; omega
    case c2 => omega
    intro v6 w6 hR6 hK6
    have hL6 : Below (w.heap.size + 1) w5 w6 := hK6.toBelowAt (by omega) (fun i hi => by rw [Option.mem_toList] at hi; exact (row_lt HR5.out i hi).1)
    clear hK6 c0 c1 c2 c3 c4 c5
    have HL6 := Lib.hid (HL5.out.trans (hL6.mono (by omega)))
    have hs6 : w.heap.size + 1 ≤ w6.heap.size := by have := hL6.size; omega
    have HB6 := Lib.hid (HB5.out.below hL6 (by omega)); clear hL6
    have HR6 := Lib.hid hR6; clear hR6
    obtain ⟨l, hl⟩ : ∃ l, l = [] ++ be2 hd ++ be2 sz ++ [UInt8.ofNat s] ++ d.data.toList := ⟨_, rfl⟩
    have HR6 := Lib.hid (show Row w6 (w.heap.size + 1) v6 l by rw [hl]; simpa using HR6.out)
    have hll : l.length ≤ 300 := by rw [hl]; simp [be2]; omega
    have HEN2 := Lib.hid (HEN.out.trans (hl.trans (by simp)).symm); clear hl
    obtain ⟨sm, hsm⟩ : ∃ sm, sm = sum16 l := ⟨_, rfl⟩
    have HSM := Lib.hid hsm; clear hsm
    have hsm3 : sm.toNat < 65536 := sm.isLt
    have hcv := run_string HR6.out
    go_wp2_with fail
    have hS := Sum16_any ⟨l.toArray⟩ w6 (by rw [size_mk]; omega)
    rw [show (ByteArray.mk l.toArray).data.toList = l from rfl, ← HSM.out, w16_def] at hS
    refine hS.mono ?_
    clear hS
    rintro e w7 ⟨rfl, hL7⟩
    clear hcv
    have hR7 := row_below HR6.out hL7 (Nat.le_refl _)
    have hL7 := hL7.mono hs6
    have HL7 := Lib.hid (HL6.out.trans (hL7.mono (by omega)))
    have hs7 : w.heap.size + 1 ≤ w7.heap.size := by have := hL7.size; omega
    have HB7 := Lib.hid (HB6.out.below hL7 (by omega)); clear hL7
    have HR7 := Lib.hid hR7; clear hR7
    go_wp2_with fail
    refine (appended_any (w.heap.size + 1) _ l sm.toNat _ hsm3 hs7 (by omega) HR7.out).mono ?_
    rintro e w8 ⟨v8, rfl, hR8, hL8⟩
    have HL8 := Lib.hid (HL7.out.trans (hL8.mono (by omega)))
    have hs8 : w.heap.size + 1 ≤ w8.heap.size := by have := hL8.size; omega
    have HB8 := Lib.hid (HB7.out.below hL8 (by omega)); clear hL8
    have HR8 := Lib.hid hR8; clear hR8
    have hcv := run_string HR8.out
    go_wp2_with fail
    go_ret2
    refine ⟨?_, HL8.out⟩
    rw [Tc.enc, HEN2.out, ← HSM.out]; rfl
  · simp at hbk
  · have ho := or8192 c hc
    have hd2 : hd = c + 8192 := by simpa using hhd
    rw [← hd2] at ho
    have hd3 : hd < 65536 := by omega
    clear hhd hd2
    go_enter Try.func58, Try.ntmps58
    go_wp2_with fail
    refine (HV.out _).mono ?_
    rintro e w1 ⟨rfl, hL1⟩
    have HL1 := Lib.hid (HL0.out.trans (hL1.mono HL0.out.size))
    have hs1 : w.heap.size + 1 ≤ w1.heap.size := by have := hL1.size; simp at this; omega
    have HB1 := Lib.hid (HB.out.below hL1 (by simp)); clear hL1
    have c0 := HB1.out.cell 0
    have c1 := HB1.out.cell 1
    have c2 := HB1.out.cell 2
    have c3 := HB1.out.cell 3
    have c4 := HB1.out.cell 4
    have c5 := HB1.out.cell 5
    simp only [Tc.cells, List.getElem?_cons_zero, List.getElem?_cons_succ] at c0 c1 c2 c3 c4 c5
    obtain ⟨cur, hmk, hR1⟩ := make_row w1 (d.size + 7) ((d.size : Int) + 7) (by omega) (by omega)
    obtain ⟨w2, hw2⟩ : ∃ w2, w2 = w1.alloc (Obj.cells cur 5) := ⟨_, rfl⟩
    rw [← hw2] at hmk hR1
    have HL2 := Lib.hid (show Below w.heap.size w w2 by rw [hw2]; exact HL1.out.alloc HL1.out.size (Obj.cells cur 5))
    have HB2 := Lib.hid (show Blk w2 w.heap.size (Tc.mk c ch true false s d).cells 31 by rw [hw2]; exact HB1.out.alloc (Obj.cells cur 5))
    have hs2 : w.heap.size + 1 ≤ w2.heap.size := by rw [hw2]; simp; omega
    have HR2 := Lib.hid (row_mono hR1 hs1); clear hR1 hw2
    go_wp2_with fail
    refine (appended_any (w.heap.size + 1) _ [] hd _ (by omega) hs2 (by simp) HR2.out).mono ?_
    rintro e w3 ⟨v3, rfl, hR3, hL3⟩
    clear hmk c0 c1 c2 c3 c4 c5
    have HL3 := Lib.hid (HL2.out.trans (hL3.mono (by omega)))
    have hs3 : w.heap.size + 1 ≤ w3.heap.size := by have := hL3.size; omega
    have HB3 := Lib.hid (HB2.out.below hL3 (by omega)); clear hL3
    have HR3 := Lib.hid hR3; clear hR3
    have c0 := HB3.out.cell 0
    have c1 := HB3.out.cell 1
    have c2 := HB3.out.cell 2
    have c3 := HB3.out.cell 3
    have c4 := HB3.out.cell 4
    have c5 := HB3.out.cell 5
    simp only [Tc.cells, List.getElem?_cons_zero, List.getElem?_cons_succ] at c0 c1 c2 c3 c4 c5
    go_wp2_with fail
    refine (appended_any (w.heap.size + 1) _ ([] ++ be2 hd) sz _ (by omega) hs3 (by simp [be2]) HR3.out).mono ?_
    rintro e w4 ⟨v4, rfl, hR4, hL4⟩
    clear c0 c1 c2 c3 c4 c5
    have HL4 := Lib.hid (HL3.out.trans (hL4.mono (by omega)))
    have hs4 : w.heap.size + 1 ≤ w4.heap.size := by have := hL4.size; omega
    have HB4 := Lib.hid (HB3.out.below hL4 (by omega)); clear hL4
    have HR4 := Lib.hid hR4; clear hR4
    have c0 := HB4.out.cell 0
    have c1 := HB4.out.cell 1
    have c2 := HB4.out.cell 2
    have c3 := HB4.out.cell 3
    have c4 := HB4.out.cell 4
    have c5 := HB4.out.cell 5
    simp only [Tc.cells, List.getElem?_cons_zero, List.getElem?_cons_succ] at c0 c1 c2 c3 c4 c5
    go_wp2_with (at_builtin; refine append_byte _ rfl _ _ rfl (w.heap.size + 1) _ _ rfl (row_keep HR4.out ((Keep.refl [] _).alloc _) (fun _ _ => by simp)) w4.heap.size (UInt8.ofNat s) rfl ?c1 ?c2 ?c3 ?_)
    case c1 =>
      rw [HSB.out]
      exact (Blk.new w4 [vb (UInt8.ofNat s)] 5).cell 0
    case c2 => simp [be2]
    case c3 => simp; omega
    intro v5 w5 hR5 hK5
    have hL5 : Below (w.heap.size + 1) w4 w5 := (((Keep.refl _ w4).alloc _).trans hK5).toBelowAt (by omega) (fun i hi => by rw [Option.mem_toList] at hi; exact (row_lt HR4.out i hi).1)
    clear hK5 c0 c1 c2 c3 c4 c5
    have HL5 := Lib.hid (HL4.out.trans (hL5.mono (by omega)))
    have hs5 : w.heap.size + 1 ≤ w5.heap.size := by have := hL5.size; omega
    have HB5 := Lib.hid (HB4.out.below hL5 (by omega)); clear hL5
    have HR5 := Lib.hid hR5; clear hR5
    have c0 := HB5.out.cell 0
    have c1 := HB5.out.cell 1
    have c2 := HB5.out.cell 2
    have c3 := HB5.out.cell 3
    have c4 := HB5.out.cell 4
    have c5 := HB5.out.cell 5
    simp only [Tc.cells, List.getElem?_cons_zero, List.getElem?_cons_succ] at c0 c1 c2 c3 c4 c5
    go_wp2_with (at_builtin; refine append_string _ rfl _ _ rfl (w.heap.size + 1) _ _ rfl HR5.out d rfl ?c1 ?c2 ?_)
    case c1 => simp [be2]; omega
    case c2 => omega
    intro v6 w6 hR6 hK6
    have hL6 : Below (w.heap.size + 1) w5 w6 := hK6.toBelowAt (by omega) (fun i hi => by rw [Option.mem_toList] at hi; exact (row_lt HR5.out i hi).1)
    clear hK6 c0 c1 c2 c3 c4 c5
    have HL6 := Lib.hid (HL5.out.trans (hL6.mono (by omega)))
    have hs6 : w.heap.size + 1 ≤ w6.heap.size := by have := hL6.size; omega
    have HB6 := Lib.hid (HB5.out.below hL6 (by omega)); clear hL6
    have HR6 := Lib.hid hR6; clear hR6
    obtain ⟨l, hl⟩ : ∃ l, l = [] ++ be2 hd ++ be2 sz ++ [UInt8.ofNat s] ++ d.data.toList := ⟨_, rfl⟩
    have HR6 := Lib.hid (show Row w6 (w.heap.size + 1) v6 l by rw [hl]; simpa using HR6.out)
    have hll : l.length ≤ 300 := by rw [hl]; simp [be2]; omega
    have HEN2 := Lib.hid (HEN.out.trans (hl.trans (by simp)).symm); clear hl
    obtain ⟨sm, hsm⟩ : ∃ sm, sm = sum16 l := ⟨_, rfl⟩
    have HSM := Lib.hid hsm; clear hsm
    have hsm3 : sm.toNat < 65536 := sm.isLt
    have hcv := run_string HR6.out
    go_wp2_with fail
    have hS := Sum16_any ⟨l.toArray⟩ w6 (by rw [size_mk]; omega)
    rw [show (ByteArray.mk l.toArray).data.toList = l from rfl, ← HSM.out, w16_def] at hS
    refine hS.mono ?_
    clear hS
    rintro e w7 ⟨rfl, hL7⟩
    clear hcv
    have hR7 := row_below HR6.out hL7 (Nat.le_refl _)
    have hL7 := hL7.mono hs6
    have HL7 := Lib.hid (HL6.out.trans (hL7.mono (by omega)))
    have hs7 : w.heap.size + 1 ≤ w7.heap.size := by have := hL7.size; omega
    have HB7 := Lib.hid (HB6.out.below hL7 (by omega)); clear hL7
    have HR7 := Lib.hid hR7; clear hR7
    go_wp2_with fail
    refine (appended_any (w.heap.size + 1) _ l sm.toNat _ hsm3 hs7 (by omega) HR7.out).mono ?_
    rintro e w8 ⟨v8, rfl, hR8, hL8⟩
    have HL8 := Lib.hid (HL7.out.trans (hL8.mono (by omega)))
    have hs8 : w.heap.size + 1 ≤ w8.heap.size := by have := hL8.size; omega
    have HB8 := Lib.hid (HB7.out.below hL8 (by omega)); clear hL8
    have HR8 := Lib.hid hR8; clear hR8
    have hcv := run_string HR8.out
    go_wp2_with fail
    go_ret2
    refine ⟨?_, HL8.out⟩
    rw [Tc.enc, HEN2.out, ← HSM.out]; rfl
  · have ho := or8192 c hc
    have ho2 := or12288 c hc
    obtain ⟨h1, hh1⟩ : ∃ h1, h1 = c + 8192 := ⟨_, rfl⟩
    have hd2 : hd = c + 8192 + 4096 := by simpa using hhd
    rw [← hh1] at ho
    rw [← hd2, ← hh1] at ho2
    have hd3 : hd < 65536 := by omega
    have hd4 : h1 < 65536 := by omega
    clear hhd hd2 hh1
    go_enter Try.func58, Try.ntmps58
    go_wp2_with fail
    refine (HV.out _).mono ?_
    rintro e w1 ⟨rfl, hL1⟩
    have HL1 := Lib.hid (HL0.out.trans (hL1.mono HL0.out.size))
    have hs1 : w.heap.size + 1 ≤ w1.heap.size := by have := hL1.size; simp at this; omega
    have HB1 := Lib.hid (HB.out.below hL1 (by simp)); clear hL1
    have c0 := HB1.out.cell 0
    have c1 := HB1.out.cell 1
    have c2 := HB1.out.cell 2
    have c3 := HB1.out.cell 3
    have c4 := HB1.out.cell 4
    have c5 := HB1.out.cell 5
    simp only [Tc.cells, List.getElem?_cons_zero, List.getElem?_cons_succ] at c0 c1 c2 c3 c4 c5
    obtain ⟨cur, hmk, hR1⟩ := make_row w1 (d.size + 7) ((d.size : Int) + 7) (by omega) (by omega)
    obtain ⟨w2, hw2⟩ : ∃ w2, w2 = w1.alloc (Obj.cells cur 5) := ⟨_, rfl⟩
    rw [← hw2] at hmk hR1
    have HL2 := Lib.hid (show Below w.heap.size w w2 by rw [hw2]; exact HL1.out.alloc HL1.out.size (Obj.cells cur 5))
    have HB2 := Lib.hid (show Blk w2 w.heap.size (Tc.mk c ch true true s d).cells 31 by rw [hw2]; exact HB1.out.alloc (Obj.cells cur 5))
    have hs2 : w.heap.size + 1 ≤ w2.heap.size := by rw [hw2]; simp; omega
    have HR2 := Lib.hid (row_mono hR1 hs1); clear hR1 hw2
    go_wp2_with fail
    refine (appended_any (w.heap.size + 1) _ [] hd _ (by omega) hs2 (by simp) HR2.out).mono ?_
    rintro e w3 ⟨v3, rfl, hR3, hL3⟩
    clear hmk c0 c1 c2 c3 c4 c5
    have HL3 := Lib.hid (HL2.out.trans (hL3.mono (by omega)))
    have hs3 : w.heap.size + 1 ≤ w3.heap.size := by have := hL3.size; omega
    have HB3 := Lib.hid (HB2.out.below hL3 (by omega)); clear hL3
    have HR3 := Lib.hid hR3; clear hR3
    have c0 := HB3.out.cell 0
    have c1 := HB3.out.cell 1
    have c2 := HB3.out.cell 2
    have c3 := HB3.out.cell 3
    have c4 := HB3.out.cell 4
    have c5 := HB3.out.cell 5
    simp only [Tc.cells, List.getElem?_cons_zero, List.getElem?_cons_succ] at c0 c1 c2 c3 c4 c5
    go_wp2_with fail
    refine (appended_any (w.heap.size + 1) _ ([] ++ be2 hd) sz _ (by omega) hs3 (by simp [be2]) HR3.out).mono ?_
    rintro e w4 ⟨v4, rfl, hR4, hL4⟩
    clear c0 c1 c2 c3 c4 c5
    have HL4 := Lib.hid (HL3.out.trans (hL4.mono (by omega)))
    have hs4 : w.heap.size + 1 ≤ w4.heap.size := by have := hL4.size; omega
    have HB4 := Lib.hid (HB3.out.below hL4 (by omega)); clear hL4
    have HR4 := Lib.hid hR4; clear hR4
    have c0 := HB4.out.cell 0
    have c1 := HB4.out.cell 1
    have c2 := HB4.out.cell 2
    have c3 := HB4.out.cell 3
    have c4 := HB4.out.cell 4
    have c5 := HB4.out.cell 5
    simp only [Tc.cells, List.getElem?_cons_zero, List.getElem?_cons_succ] at c0 c1 c2 c3 c4 c5
    go_wp2_with (at_builtin; refine append_byte _ rfl _ _ rfl (w.heap.size + 1) _ _ rfl (row_keep HR4.out ((Keep.refl [] _).alloc _) (fun _ _ => by simp)) w4.heap.size (UInt8.ofNat s) rfl ?c1 ?c2 ?c3 ?_)
    case c1 =>
      rw [HSB.out]
      exact (Blk.new w4 [vb (UInt8.ofNat s)] 5).cell 0
    case c2 => simp [be2]
    case c3 => simp; omega
    intro v5 w5 hR5 hK5
    have hL5 : Below (w.heap.size + 1) w4 w5 := (((Keep.refl _ w4).alloc _).trans hK5).toBelowAt (by omega) (fun i hi => by rw [Option.mem_toList] at hi; exact (row_lt HR4.out i hi).1)
    clear hK5 c0 c1 c2 c3 c4 c5
    have HL5 := Lib.hid (HL4.out.trans (hL5.mono (by omega)))
    have hs5 : w.heap.size + 1 ≤ w5.heap.size := by have := hL5.size; omega
    have HB5 := Lib.hid (HB4.out.below hL5 (by omega)); clear hL5
    have HR5 := Lib.hid hR5; clear hR5
    have c0 := HB5.out.cell 0
    have c1 := HB5.out.cell 1
    have c2 := HB5.out.cell 2
    have c3 := HB5.out.cell 3
    have c4 := HB5.out.cell 4
    have c5 := HB5.out.cell 5
    simp only [Tc.cells, List.getElem?_cons_zero, List.getElem?_cons_succ] at c0 c1 c2 c3 c4 c5
    go_wp2_with (at_builtin; refine append_string _ rfl _ _ rfl (w.heap.size + 1) _ _ rfl HR5.out d rfl ?c1 ?c2 ?_)
    case c1 => simp [be2]; omega
    case c2 => omega
    intro v6 w6 hR6 hK6
    have hL6 : Below (w.heap.size + 1) w5 w6 := hK6.toBelowAt (by omega) (fun i hi => by rw [Option.mem_toList] at hi; exact (row_lt HR5.out i hi).1)
    clear hK6 c0 c1 c2 c3 c4 c5
    have HL6 := Lib.hid (HL5.out.trans (hL6.mono (by omega)))
    have hs6 : w.heap.size + 1 ≤ w6.heap.size := by have := hL6.size; omega
    have HB6 := Lib.hid (HB5.out.below hL6 (by omega)); clear hL6
    have HR6 := Lib.hid hR6; clear hR6
    obtain ⟨l, hl⟩ : ∃ l, l = [] ++ be2 hd ++ be2 sz ++ [UInt8.ofNat s] ++ d.data.toList := ⟨_, rfl⟩
    have HR6 := Lib.hid (show Row w6 (w.heap.size + 1) v6 l by rw [hl]; simpa using HR6.out)
    have hll : l.length ≤ 300 := by rw [hl]; simp [be2]; omega
    have HEN2 := Lib.hid (HEN.out.trans (hl.trans (by simp)).symm); clear hl
    obtain ⟨sm, hsm⟩ : ∃ sm, sm = sum16 l := ⟨_, rfl⟩
    have HSM := Lib.hid hsm; clear hsm
    have hsm3 : sm.toNat < 65536 := sm.isLt
    have hcv := run_string HR6.out
    go_wp2_with fail
    have hS := Sum16_any ⟨l.toArray⟩ w6 (by rw [size_mk]; omega)
    rw [show (ByteArray.mk l.toArray).data.toList = l from rfl, ← HSM.out, w16_def] at hS
    refine hS.mono ?_
    clear hS
    rintro e w7 ⟨rfl, hL7⟩
    clear hcv
    have hR7 := row_below HR6.out hL7 (Nat.le_refl _)
    have hL7 := hL7.mono hs6
    have HL7 := Lib.hid (HL6.out.trans (hL7.mono (by omega)))
    have hs7 : w.heap.size + 1 ≤ w7.heap.size := by have := hL7.size; omega
    have HB7 := Lib.hid (HB6.out.below hL7 (by omega)); clear hL7
    have HR7 := Lib.hid hR7; clear hR7
    go_wp2_with fail
    refine (appended_any (w.heap.size + 1) _ l sm.toNat _ hsm3 hs7 (by omega) HR7.out).mono ?_
    rintro e w8 ⟨v8, rfl, hR8, hL8⟩
    have HL8 := Lib.hid (HL7.out.trans (hL8.mono (by omega)))
    have hs8 : w.heap.size + 1 ≤ w8.heap.size := by have := hL8.size; omega
    have HB8 := Lib.hid (HB7.out.below hL8 (by omega)); clear hL8
    have HR8 := Lib.hid hR8; clear hR8
    have hcv := run_string HR8.out
    go_wp2_with fail
    go_ret2
    refine ⟨?_, HL8.out⟩
    rw [Tc.enc, HEN2.out, ← HSM.out]; rfl
end Go.Proofs.Ytbncejmohhejlaa
