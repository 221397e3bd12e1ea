/- What is proved here: walks of the functions that read the fields of a kind of unit. -/
import Derived.Test.YtkpgenmlpkfokaaN19
set_option linter.unusedVariables false
set_option linter.unusedSimpArgs false
namespace Go.Proofs.Ytkpgenmlpkfokaa
open Go.RowKit
theorem ext_list (b : ByteArray) (n : Nat) : (b.extract n b.size).data.toList = b.data.toList.drop n := by
  simp only [ByteArray.data_extract, Array.toList_extract]
  rw [List.extract_eq_take_drop, List.take_of_length_le]
  rw [List.length_drop]; simp
theorem ext_size (b : ByteArray) (n : Nat) : (b.extract n b.size).size = b.size - n := by simp
set_option maxHeartbeats 4000000 in
set_option maxRecDepth 100000 in
theorem get4_ok (g h : Nat) (b : ByteArray) (u : Un) (gv : Value) (w : World) (hB : Blk w g [.string b] 66) (hU : Blk w h (u.cells gv) 25) (hgh : g ≠ h) (hb : b.size ≤ 1000000) (hc : 1 ≤ b.size) :
    Calls Try.prog 56 #[.pointer (some ⟨g, 0, none⟩), .pointer (some ⟨h, 0, none⟩)] w fun e w' => e = .returned (.tuple #[]) ∧ Keep [g, h] w w' ∧ Blk w' g [.string (b.extract 1 b.size)] 66 ∧ Blk w' h (({ u with why := (numN (b.data.toList.take 1) : Int) } : Un).cells gv) 25 := by
  obtain ⟨ki, nu, nm, sz, su, of, da, wy, an, me, gs⟩ := u
  simp only [Un.cells] at hU ⊢
  have HB := Lib.hid hB; have HU := Lib.hid hU
  have HG := Lib.hid hgh
  have HK := Lib.hid (Keep.refl [g, h] w)
  clear hB hU hgh
  go_enter Try.func56, Try.ntmps56
  go_wp2_with fail
  refine (rdnumber_ok g b 1 _ HB.out (by omega) (by omega) (by omega)).mono ?_
  rintro e w1 ⟨rfl, hK, hB⟩
  replace HK := Lib.hid (HK.out.trans (hK.mono (by simp)))
  replace HU := Lib.hid (HU.out.keep hK (by simp; exact fun e => HG.out e.symm))
  replace HB := Lib.hid hB
  clear hK hB
  have f7 := HU.out.free 7
  have c7 := HU.out.cell 7
  simp only [List.getElem?_cons_zero, List.getElem?_cons_succ] at c7
  go_wp2_with fail
  go_end0
  exact ⟨rfl, HK.out.setCell (.inl (by simp)) _, HB.out.set_far (by simpa using HG.out) _, HU.out.set 7 _⟩
set_option maxHeartbeats 4000000 in
set_option maxRecDepth 100000 in
theorem get4_short (g h : Nat) (b : ByteArray) (u : Un) (gv : Value) (w : World) (hB : Blk w g [.string b] 66) (hU : Blk w h (u.cells gv) 25) (hgh : g ≠ h) (hb : b.size ≤ 1000000) (hc : b.size < 1) :
    Calls Try.prog 56 #[.pointer (some ⟨g, 0, none⟩), .pointer (some ⟨h, 0, none⟩)] w fun e w' => e = .panicked shortP ∧ Keep [g, h] w w' ∧ ∃ cs : List Value, cs.length = 11 ∧ Blk w' h cs 25 := by
  obtain ⟨ki, nu, nm, sz, su, of, da, wy, an, me, gs⟩ := u
  simp only [Un.cells] at hU ⊢
  have HB := Lib.hid hB; have HU := Lib.hid hU
  have HG := Lib.hid hgh
  have HK := Lib.hid (Keep.refl [g, h] w)
  clear hB hU hgh
  go_enter Try.func56, Try.ntmps56
  go_wp2_with fail
  refine (rdnumber_short g b 1 _ HB.out (by omega) (by omega)).mono ?_
  rintro e _ ⟨rfl, rfl⟩
  go_wp2_with fail
  exact ⟨rfl, rfl, HK.out, _, rfl, HU.out⟩
set_option maxHeartbeats 4000000 in
set_option maxRecDepth 100000 in
theorem get6_ok (g h : Nat) (b : ByteArray) (u : Un) (gv : Value) (w : World) (hB : Blk w g [.string b] 66) (hU : Blk w h (u.cells gv) 25) (hgh : g ≠ h) (hb : b.size ≤ 1000000) (hc : 1 ≤ b.size) :
    Calls Try.prog 65 #[.pointer (some ⟨g, 0, none⟩), .pointer (some ⟨h, 0, none⟩)] w fun e w' => e = .returned (.tuple #[]) ∧ Keep [g, h] w w' ∧ Blk w' g [.string (b.extract 1 b.size)] 66 ∧ Blk w' h (({ u with ans := (numN (b.data.toList.take 1) : Int) } : Un).cells gv) 25 := by
  obtain ⟨ki, nu, nm, sz, su, of, da, wy, an, me, gs⟩ := u
  simp only [Un.cells] at hU ⊢
  have HB := Lib.hid hB; have HU := Lib.hid hU
  have HG := Lib.hid hgh
  have HK := Lib.hid (Keep.refl [g, h] w)
  clear hB hU hgh
  go_enter Try.func65, Try.ntmps65
  go_wp2_with fail
  refine (rdnumber_ok g b 1 _ HB.out (by omega) (by omega) (by omega)).mono ?_
  rintro e w1 ⟨rfl, hK, hB⟩
  replace HK := Lib.hid (HK.out.trans (hK.mono (by simp)))
  replace HU := Lib.hid (HU.out.keep hK (by simp; exact fun e => HG.out e.symm))
  replace HB := Lib.hid hB
  clear hK hB
  have f8 := HU.out.free 8
  have c8 := HU.out.cell 8
  simp only [List.getElem?_cons_zero, List.getElem?_cons_succ] at c8
  go_wp2_with fail
  go_end0
  exact ⟨rfl, HK.out.setCell (.inl (by simp)) _, HB.out.set_far (by simpa using HG.out) _, HU.out.set 8 _⟩
set_option maxHeartbeats 4000000 in
set_option maxRecDepth 100000 in
theorem get6_short (g h : Nat) (b : ByteArray) (u : Un) (gv : Value) (w : World) (hB : Blk w g [.string b] 66) (hU : Blk w h (u.cells gv) 25) (hgh : g ≠ h) (hb : b.size ≤ 1000000) (hc : b.size < 1) :
    Calls Try.prog 65 #[.pointer (some ⟨g, 0, none⟩), .pointer (some ⟨h, 0, none⟩)] w fun e w' => e = .panicked shortP ∧ Keep [g, h] w w' ∧ ∃ cs : List Value, cs.length = 11 ∧ Blk w' h cs 25 := by
  obtain ⟨ki, nu, nm, sz, su, of, da, wy, an, me, gs⟩ := u
  simp only [Un.cells] at hU ⊢
  have HB := Lib.hid hB; have HU := Lib.hid hU
  have HG := Lib.hid hgh
  have HK := Lib.hid (Keep.refl [g, h] w)
  clear hB hU hgh
  go_enter Try.func65, Try.ntmps65
  go_wp2_with fail
  refine (rdnumber_short g b 1 _ HB.out (by omega) (by omega)).mono ?_
  rintro e _ ⟨rfl, rfl⟩
  go_wp2_with fail
  exact ⟨rfl, rfl, HK.out, _, rfl, HU.out⟩
set_option maxHeartbeats 4000000 in
set_option maxRecDepth 100000 in
theorem get1_ok (g h : Nat) (b : ByteArray) (u : Un) (gv : Value) (w : World) (hB : Blk w g [.string b] 66) (hU : Blk w h (u.cells gv) 25) (hgh : g ≠ h) (hb : b.size ≤ 1000000) (hc : 2 ≤ b.size) :
    Calls Try.prog 42 #[.pointer (some ⟨g, 0, none⟩), .pointer (some ⟨h, 0, none⟩)] w fun e w' => e = .returned (.tuple #[]) ∧ Keep [g, h] w w' ∧ Blk w' g [.string (b.extract b.size b.size)] 66 ∧ Blk w' h (({ u with size := (numN (b.data.toList.take 2) : Int), name := b.extract 2 b.size } : Un).cells gv) 25 := by
  obtain ⟨ki, nu, nm, sz, su, of, da, wy, an, me, gs⟩ := u
  simp only [Un.cells] at hU ⊢
  have HB := Lib.hid hB; have HU := Lib.hid hU
  have HG := Lib.hid hgh
  have HK := Lib.hid (Keep.refl [g, h] w)
  clear hB hU hgh
  have e1 : b.extract b.size b.size = ⟨#[]⟩ := by
    apply ByteArray.ext; apply Array.ext'; simp
  rw [e1]
  clear e1
  obtain ⟨b1, hb1⟩ : ∃ b1, b1 = b.extract 2 b.size := ⟨_, rfl⟩
  have hb2 : b1.size ≤ 1000000 := by rw [hb1, ext_size]; omega
  have HB1 := Lib.hid hb1
  rw [← hb1]
  clear hb1
  go_enter Try.func42, Try.ntmps42
  go_wp2_with fail
  refine (rdnumber_ok g b 2 _ HB.out (by omega) (by omega) (by omega)).mono ?_
  rintro e w1 ⟨rfl, hK, hB⟩
  replace HK := Lib.hid (HK.out.trans (hK.mono (by simp)))
  replace HU := Lib.hid (HU.out.keep hK (by simp; exact fun e => HG.out e.symm))
  replace HB := Lib.hid hB
  clear hK hB
  have f3 := HU.out.free 3
  have c3 := HU.out.cell 3
  simp only [List.getElem?_cons_zero, List.getElem?_cons_succ] at c3
  have f2 := HU.out.free 2
  have c2 := HU.out.cell 2
  simp only [List.getElem?_cons_zero, List.getElem?_cons_succ] at c2
  rw [← HB1.out] at HB
  go_wp2_with fail
  clear f3 c3 f2 c2
  replace HK := Lib.hid (HK.out.setCell (p := ⟨h, 3, none⟩) (.inl (by simp)) (.int .i64 (numN (b.data.toList.take 2))))
  replace HB := Lib.hid (HB.out.set_far (p := ⟨h, 3, none⟩) (by simpa using HG.out) (.int .i64 (numN (b.data.toList.take 2))))
  replace HU := Lib.hid (HU.out.set 3 (.int .i64 (numN (b.data.toList.take 2))))
  refine (rdrest_any g b1 _ HB.out hb2).mono ?_
  rintro e w2 ⟨rfl, hK, hB⟩
  replace HK := Lib.hid (HK.out.trans (hK.mono (by simp)))
  replace HU := Lib.hid (HU.out.keep hK (by simp; exact fun e => HG.out e.symm))
  replace HB := Lib.hid hB
  clear hK hB
  have f2 := HU.out.free 2
  have c2 := HU.out.cell 2
  simp only [List.set_cons_zero, List.set_cons_succ, List.getElem?_cons_zero, List.getElem?_cons_succ] at c2
  go_wp2_with fail
  go_end0
  exact ⟨rfl, HK.out.setCell (.inl (by simp)) _, HB.out.set_far (by simpa using HG.out) _, HU.out.set 2 _⟩
set_option maxHeartbeats 4000000 in
set_option maxRecDepth 100000 in
theorem get1_short (g h : Nat) (b : ByteArray) (u : Un) (gv : Value) (w : World) (hB : Blk w g [.string b] 66) (hU : Blk w h (u.cells gv) 25) (hgh : g ≠ h) (hb : b.size ≤ 1000000) (hc : b.size < 2) :
    Calls Try.prog 42 #[.pointer (some ⟨g, 0, none⟩), .pointer (some ⟨h, 0, none⟩)] w fun e w' => e = .panicked shortP ∧ Keep [g, h] w w' ∧ ∃ cs : List Value, cs.length = 11 ∧ Blk w' h cs 25 := by
  obtain ⟨ki, nu, nm, sz, su, of, da, wy, an, me, gs⟩ := u
  simp only [Un.cells] at hU ⊢
  have HB := Lib.hid hB; have HU := Lib.hid hU
  have HG := Lib.hid hgh
  have HK := Lib.hid (Keep.refl [g, h] w)
  clear hB hU hgh
  go_enter Try.func42, Try.ntmps42
  go_wp2_with fail
  refine (rdnumber_short g b 2 _ HB.out (by omega) (by omega)).mono ?_
  rintro e _ ⟨rfl, rfl⟩
  go_wp2_with fail
  exact ⟨rfl, rfl, HK.out, _, rfl, HU.out⟩
set_option maxHeartbeats 4000000 in
set_option maxRecDepth 100000 in
theorem get2_ok (g h : Nat) (b : ByteArray) (u : Un) (gv : Value) (w : World) (hB : Blk w g [.string b] 66) (hU : Blk w h (u.cells gv) 25) (hgh : g ≠ h) (hb : b.size ≤ 1000000) (hc : 2 ≤ b.size) :
    Calls Try.prog 47 #[.pointer (some ⟨g, 0, none⟩), .pointer (some ⟨h, 0, none⟩)] w fun e w' => e = .returned (.tuple #[]) ∧ Keep [g, h] w w' ∧ Blk w' g [.string (b.extract b.size b.size)] 66 ∧ Blk w' h (({ u with off := (numN (b.data.toList.take 2) : Int), data := b.extract 2 b.size } : Un).cells gv) 25 := by
  obtain ⟨ki, nu, nm, sz, su, of, da, wy, an, me, gs⟩ := u
  simp only [Un.cells] at hU ⊢
  have HB := Lib.hid hB; have HU := Lib.hid hU
  have HG := Lib.hid hgh
  have HK := Lib.hid (Keep.refl [g, h] w)
  clear hB hU hgh
  have e1 : b.extract b.size b.size = ⟨#[]⟩ := by
    apply ByteArray.ext; apply Array.ext'; simp
  rw [e1]
  clear e1
  obtain ⟨b1, hb1⟩ : ∃ b1, b1 = b.extract 2 b.size := ⟨_, rfl⟩
  have hb2 : b1.size ≤ 1000000 := by rw [hb1, ext_size]; omega
  have HB1 := Lib.hid hb1
  rw [← hb1]
  clear hb1
  go_enter Try.func47, Try.ntmps47
  go_wp2_with fail
  refine (rdnumber_ok g b 2 _ HB.out (by omega) (by omega) (by omega)).mono ?_
  rintro e w1 ⟨rfl, hK, hB⟩
  replace HK := Lib.hid (HK.out.trans (hK.mono (by simp)))
  replace HU := Lib.hid (HU.out.keep hK (by simp; exact fun e => HG.out e.symm))
  replace HB := Lib.hid hB
  clear hK hB
  have f5 := HU.out.free 5
  have c5 := HU.out.cell 5
  simp only [List.getElem?_cons_zero, List.getElem?_cons_succ] at c5
  have f6 := HU.out.free 6
  have c6 := HU.out.cell 6
  simp only [List.getElem?_cons_zero, List.getElem?_cons_succ] at c6
  rw [← HB1.out] at HB
  go_wp2_with fail
  clear f5 c5 f6 c6
  replace HK := Lib.hid (HK.out.setCell (p := ⟨h, 5, none⟩) (.inl (by simp)) (.int .i64 (numN (b.data.toList.take 2))))
  replace HB := Lib.hid (HB.out.set_far (p := ⟨h, 5, none⟩) (by simpa using HG.out) (.int .i64 (numN (b.data.toList.take 2))))
  replace HU := Lib.hid (HU.out.set 5 (.int .i64 (numN (b.data.toList.take 2))))
  refine (rdrest_any g b1 _ HB.out hb2).mono ?_
  rintro e w2 ⟨rfl, hK, hB⟩
  replace HK := Lib.hid (HK.out.trans (hK.mono (by simp)))
  replace HU := Lib.hid (HU.out.keep hK (by simp; exact fun e => HG.out e.symm))
  replace HB := Lib.hid hB
  clear hK hB
  have f6 := HU.out.free 6
  have c6 := HU.out.cell 6
  simp only [List.set_cons_zero, List.set_cons_succ, List.getElem?_cons_zero, List.getElem?_cons_succ] at c6
  go_wp2_with fail
  go_end0
  exact ⟨rfl, HK.out.setCell (.inl (by simp)) _, HB.out.set_far (by simpa using HG.out) _, HU.out.set 6 _⟩
set_option maxHeartbeats 4000000 in
set_option maxRecDepth 100000 in
theorem get2_short (g h : Nat) (b : ByteArray) (u : Un) (gv : Value) (w : World) (hB : Blk w g [.string b] 66) (hU : Blk w h (u.cells gv) 25) (hgh : g ≠ h) (hb : b.size ≤ 1000000) (hc : b.size < 2) :
    Calls Try.prog 47 #[.pointer (some ⟨g, 0, none⟩), .pointer (some ⟨h, 0, none⟩)] w fun e w' => e = .panicked shortP ∧ Keep [g, h] w w' ∧ ∃ cs : List Value, cs.length = 11 ∧ Blk w' h cs 25 := by
  obtain ⟨ki, nu, nm, sz, su, of, da, wy, an, me, gs⟩ := u
  simp only [Un.cells] at hU ⊢
  have HB := Lib.hid hB; have HU := Lib.hid hU
  have HG := Lib.hid hgh
  have HK := Lib.hid (Keep.refl [g, h] w)
  clear hB hU hgh
  go_enter Try.func47, Try.ntmps47
  go_wp2_with fail
  refine (rdnumber_short g b 2 _ HB.out (by omega) (by omega)).mono ?_
  rintro e _ ⟨rfl, rfl⟩
  go_wp2_with fail
  exact ⟨rfl, rfl, HK.out, _, rfl, HU.out⟩
set_option maxHeartbeats 4000000 in
set_option maxRecDepth 100000 in
theorem get3_ok (g h : Nat) (b : ByteArray) (u : Un) (gv : Value) (w : World) (hB : Blk w g [.string b] 66) (hU : Blk w h (u.cells gv) 25) (hgh : g ≠ h) (hb : b.size ≤ 1000000) (hc : 7 ≤ b.size) :
    Calls Try.prog 52 #[.pointer (some ⟨g, 0, none⟩), .pointer (some ⟨h, 0, none⟩)] w fun e w' => e = .returned (.tuple #[]) ∧ Keep [g, h] w w' ∧ Blk w' g [.string (b.extract 7 b.size)] 66 ∧ Blk w' h (({ u with why := (numN (b.data.toList.take 1) : Int), size := (numN ((b.data.toList.drop 1).take 2) : Int), sum := (numN ((b.data.toList.drop 3).take 4) : Int) } : Un).cells gv) 25 := by
  obtain ⟨ki, nu, nm, sz, su, of, da, wy, an, me, gs⟩ := u
  simp only [Un.cells] at hU ⊢
  have HB := Lib.hid hB; have HU := Lib.hid hU
  have HG := Lib.hid hgh
  have HK := Lib.hid (Keep.refl [g, h] w)
  clear hB hU hgh
  obtain ⟨n1, hn1⟩ : ∃ n, n = numN (b.data.toList.take 1) := ⟨_, rfl⟩
  obtain ⟨n2, hn2⟩ : ∃ n, n = numN ((b.data.toList.drop 1).take 2) := ⟨_, rfl⟩
  obtain ⟨n3, hn3⟩ : ∃ n, n = numN ((b.data.toList.drop 3).take 4) := ⟨_, rfl⟩
  have hn3l : n3 < 4294967296 := by
    rw [hn3]
    have h := numN_lt ((b.data.toList.drop 3).take 4)
    have hl : ((b.data.toList.drop 3).take 4).length = 4 := by rw [List.length_take, List.length_drop, ← size_list]; omega
    rw [hl] at h
    exact Nat.lt_of_lt_of_eq h (by decide)
  rw [← hn1, ← hn2, ← hn3]
  have hw3 : IntKind.u32.wrap (n3 : Int) = (n3 : Int) := by rw [IntKind.wrap_u32]; omega
  have HN1 := Lib.hid hn1; have HN2 := Lib.hid hn2; have HN3 := Lib.hid hn3
  obtain ⟨b1, hb1⟩ : ∃ x, x = b.extract 1 b.size := ⟨_, rfl⟩
  obtain ⟨b2, hb2⟩ : ∃ x, x = b1.extract 2 b1.size := ⟨_, rfl⟩
  have s1 : b1.size = b.size - 1 := by rw [hb1, ext_size]
  have s2 : b2.size = b.size - 3 := by rw [hb2, ext_size, s1]; omega
  have l1 : b1.data.toList = b.data.toList.drop 1 := by rw [hb1, ext_list]
  have l2 : b2.data.toList = b.data.toList.drop 3 := by rw [hb2, ext_list, l1, List.drop_drop]
  have l3 : b2.extract 4 b2.size = b.extract 7 b.size := by
    apply ByteArray.ext; apply Array.ext'; rw [ext_list, ext_list, l2, List.drop_drop]
  have S1 := Lib.hid s1; have S2 := Lib.hid s2; have L1 := Lib.hid l1; have L2 := Lib.hid l2; have L3 := Lib.hid l3; have HB1 := Lib.hid hb1; have HB2 := Lib.hid hb2
  have t1 : 6 ≤ b1.size := by omega
  have t2 : 4 ≤ b2.size := by omega
  have t3 : b1.size ≤ 1000000 := by omega
  have t4 : b2.size ≤ 1000000 := by omega
  clear hn1 hn2 hn3 s1 s2 l1 l2 l3 hb1 hb2
  go_enter Try.func52, Try.ntmps52
  go_wp2_with fail
  refine (rdnumber_ok g b 1 _ HB.out (by omega) (by omega) (by omega)).mono ?_
  rintro e w1 ⟨rfl, hK, hB⟩
  replace HK := Lib.hid (HK.out.trans (hK.mono (by simp)))
  replace HU := Lib.hid (HU.out.keep hK (by simp; exact fun e => HG.out e.symm))
  replace HB := Lib.hid hB
  clear hK hB
  rw [← HN1.out]
  rw [← HB1.out] at HB
  have f7 := HU.out.free 7
  have c7 := HU.out.cell 7
  simp only [List.set_cons_zero, List.set_cons_succ, List.getElem?_cons_zero, List.getElem?_cons_succ] at c7
  go_wp2_with fail
  clear f7 c7
  replace HK := Lib.hid (HK.out.setCell (p := ⟨h, 7, none⟩) (.inl (by simp)) (.int .i64 (n1 : Int)))
  replace HB := Lib.hid (HB.out.set_far (p := ⟨h, 7, none⟩) (by simpa using HG.out) (.int .i64 (n1 : Int)))
  replace HU := Lib.hid (HU.out.set 7 (.int .i64 (n1 : Int)))
  refine (rdnumber_ok g b1 2 _ HB.out (by omega) (by omega) (by omega)).mono ?_
  rintro e w2 ⟨rfl, hK, hB⟩
  replace HK := Lib.hid (HK.out.trans (hK.mono (by simp)))
  replace HU := Lib.hid (HU.out.keep hK (by simp; exact fun e => HG.out e.symm))
  replace HB := Lib.hid hB
  clear hK hB
  rw [L1.out, ← HN2.out]
  rw [← HB2.out] at HB
  have f3 := HU.out.free 3
  have c3 := HU.out.cell 3
  simp only [List.set_cons_zero, List.set_cons_succ, List.getElem?_cons_zero, List.getElem?_cons_succ] at c3
  go_wp2_with fail
  clear f3 c3
  replace HK := Lib.hid (HK.out.setCell (p := ⟨h, 3, none⟩) (.inl (by simp)) (.int .i64 (n2 : Int)))
  replace HB := Lib.hid (HB.out.set_far (p := ⟨h, 3, none⟩) (by simpa using HG.out) (.int .i64 (n2 : Int)))
  replace HU := Lib.hid (HU.out.set 3 (.int .i64 (n2 : Int)))
  refine (rdnumber_ok g b2 4 _ HB.out (by omega) (by omega) (by omega)).mono ?_
  rintro e w3 ⟨rfl, hK, hB⟩
  replace HK := Lib.hid (HK.out.trans (hK.mono (by simp)))
  replace HU := Lib.hid (HU.out.keep hK (by simp; exact fun e => HG.out e.symm))
  replace HB := Lib.hid hB
  clear hK hB
  rw [L2.out, ← HN3.out]
  have f4 := HU.out.free 4
  have c4 := HU.out.cell 4
  simp only [List.set_cons_zero, List.set_cons_succ, List.getElem?_cons_zero, List.getElem?_cons_succ] at c4
  go_wp2_with fail
  go_end0
  rw [L3.out] at HB
  exact ⟨rfl, HK.out.setCell (.inl (by simp)) _, HB.out.set_far (by simpa using HG.out) _, HU.out.set 4 _⟩
set_option maxHeartbeats 4000000 in
set_option maxRecDepth 100000 in
theorem get3_short (g h : Nat) (b : ByteArray) (u : Un) (gv : Value) (w : World) (hB : Blk w g [.string b] 66) (hU : Blk w h (u.cells gv) 25) (hgh : g ≠ h) (hb : b.size ≤ 1000000) (hc : b.size < 7) :
    Calls Try.prog 52 #[.pointer (some ⟨g, 0, none⟩), .pointer (some ⟨h, 0, none⟩)] w fun e w' => e = .panicked shortP ∧ Keep [g, h] w w' ∧ ∃ cs : List Value, cs.length = 11 ∧ Blk w' h cs 25 := by
  obtain ⟨ki, nu, nm, sz, su, of, da, wy, an, me, gs⟩ := u
  simp only [Un.cells] at hU ⊢
  have HB := Lib.hid hB; have HU := Lib.hid hU
  have HG := Lib.hid hgh
  have HK := Lib.hid (Keep.refl [g, h] w)
  clear hB hU hgh
  by_cases h1 : b.size < 1
  · go_enter Try.func52, Try.ntmps52
    go_wp2_with fail
    refine (rdnumber_short g b 1 _ HB.out (by omega) (by omega)).mono ?_
    rintro e _ ⟨rfl, rfl⟩
    go_wp2_with fail
    exact ⟨rfl, rfl, HK.out, _, rfl, HU.out⟩
  obtain ⟨n1, hn1⟩ : ∃ n, n = numN (b.data.toList.take 1) := ⟨_, rfl⟩
  have HN1 := Lib.hid hn1
  obtain ⟨b1, hb1⟩ : ∃ x, x = b.extract 1 b.size := ⟨_, rfl⟩
  have s1 : b1.size = b.size - 1 := by rw [hb1, ext_size]
  have S1 := Lib.hid s1; have HB1 := Lib.hid hb1
  have t3 : b1.size ≤ 1000000 := by omega
  by_cases h2 : b1.size < 2
  · clear hn1 s1 hb1
    go_enter Try.func52, Try.ntmps52
    go_wp2_with fail
    refine (rdnumber_ok g b 1 _ HB.out (by omega) (by omega) (by omega)).mono ?_
    rintro e w1 ⟨rfl, hK, hB⟩
    replace HK := Lib.hid (HK.out.trans (hK.mono (by simp)))
    replace HU := Lib.hid (HU.out.keep hK (by simp; exact fun e => HG.out e.symm))
    replace HB := Lib.hid hB
    clear hK hB
    rw [← HN1.out]
    rw [← HB1.out] at HB
    have f7 := HU.out.free 7
    have c7 := HU.out.cell 7
    simp only [List.set_cons_zero, List.set_cons_succ, List.getElem?_cons_zero, List.getElem?_cons_succ] at c7
    go_wp2_with fail
    clear f7 c7
    replace HK := Lib.hid (HK.out.setCell (p := ⟨h, 7, none⟩) (.inl (by simp)) (.int .i64 (n1 : Int)))
    replace HB := Lib.hid (HB.out.set_far (p := ⟨h, 7, none⟩) (by simpa using HG.out) (.int .i64 (n1 : Int)))
    replace HU := Lib.hid (HU.out.set 7 (.int .i64 (n1 : Int)))
    refine (rdnumber_short g b1 2 _ HB.out (by omega) (by omega)).mono ?_
    rintro e _ ⟨rfl, rfl⟩
    go_wp2_with fail
    exact ⟨rfl, rfl, HK.out, _, rfl, HU.out⟩
  obtain ⟨n2, hn2⟩ : ∃ n, n = numN (b1.data.toList.take 2) := ⟨_, rfl⟩
  have HN2 := Lib.hid hn2
  obtain ⟨b2, hb2⟩ : ∃ x, x = b1.extract 2 b1.size := ⟨_, rfl⟩
  have s2 : b2.size = b1.size - 2 := by rw [hb2, ext_size]
  have HB2 := Lib.hid hb2
  have t4 : b2.size ≤ 1000000 := by omega
  have t5 : b2.size < 4 := by omega
  clear hn1 s1 hb1 hn2 s2 hb2
  go_enter Try.func52, Try.ntmps52
  go_wp2_with fail
  refine (rdnumber_ok g b 1 _ HB.out (by omega) (by omega) (by omega)).mono ?_
  rintro e w1 ⟨rfl, hK, hB⟩
  replace HK := Lib.hid (HK.out.trans (hK.mono (by simp)))
  replace HU := Lib.hid (HU.out.keep hK (by simp; exact fun e => HG.out e.symm))
  replace HB := Lib.hid hB
  clear hK hB
  rw [← HN1.out]
  rw [← HB1.out] at HB
  have f7 := HU.out.free 7
  have c7 := HU.out.cell 7
  simp only [List.set_cons_zero, List.set_cons_succ, List.getElem?_cons_zero, List.getElem?_cons_succ] at c7
  go_wp2_with fail
  clear f7 c7
  replace HK := Lib.hid (HK.out.setCell (p := ⟨h, 7, none⟩) (.inl (by simp)) (.int .i64 (n1 : Int)))
  replace HB := Lib.hid (HB.out.set_far (p := ⟨h, 7, none⟩) (by simpa using HG.out) (.int .i64 (n1 : Int)))
  replace HU := Lib.hid (HU.out.set 7 (.int .i64 (n1 : Int)))
  refine (rdnumber_ok g b1 2 _ HB.out (by omega) (by omega) (by omega)).mono ?_
  rintro e w2 ⟨rfl, hK, hB⟩
  replace HK := Lib.hid (HK.out.trans (hK.mono (by simp)))
  replace HU := Lib.hid (HU.out.keep hK (by simp; exact fun e => HG.out e.symm))
  replace HB := Lib.hid hB
  clear hK hB
  rw [← HN2.out]
  rw [← HB2.out] at HB
  have f3 := HU.out.free 3
  have c3 := HU.out.cell 3
  simp only [List.set_cons_zero, List.set_cons_succ, List.getElem?_cons_zero, List.getElem?_cons_succ] at c3
  go_wp2_with fail
  clear f3 c3
  replace HK := Lib.hid (HK.out.setCell (p := ⟨h, 3, none⟩) (.inl (by simp)) (.int .i64 (n2 : Int)))
  replace HB := Lib.hid (HB.out.set_far (p := ⟨h, 3, none⟩) (by simpa using HG.out) (.int .i64 (n2 : Int)))
  replace HU := Lib.hid (HU.out.set 3 (.int .i64 (n2 : Int)))
  refine (rdnumber_short g b2 4 _ HB.out (by omega) (by omega)).mono ?_
  rintro e _ ⟨rfl, rfl⟩
  go_wp2_with fail
  exact ⟨rfl, rfl, HK.out, _, rfl, HU.out⟩
end Go.Proofs.Ytkpgenmlpkfokaa
