/- What is proved here: the walk of the law about encodings and control frames. -/
import Derived.Test.YtebgehmgjafblaaH12
set_option linter.unusedVariables false
set_option linter.unusedSimpArgs false
namespace Go.Proofs.Ytebgehmgjafblaa
open Go.RowKit
theorem putV_form (x : Tc) : ∃ (s : ByteArray) (e : Int), x.putV = .tuple #[.string s, .int .i64 e] := by
  unfold Tc.putV
  split
  · exact ⟨_, _, rfl⟩
  · exact ⟨_, _, rfl⟩
theorem madeV_form (c ch : Int) (d : ByteArray) : ∃ (r : Tc) (e : Int), Tc.madeV c ch d = .tuple #[r.val, .int .i64 e] := by
  unfold Tc.madeV
  split
  · exact ⟨_, _, rfl⟩
  · exact ⟨_, _, rfl⟩
theorem setNextV_form (c ch n : Int) : ∃ (r : Tc) (e : Int), setNextV c ch n = .tuple #[r.val, .int .i64 e] := by
  unfold setNextV
  split
  · exact madeV_form _ _ _
  · exact ⟨Tc.zero, 2, rfl⟩
theorem ctlV_form (x : Tc) : ∃ (b : Bool) (n : Int) (k : Bool), x.ctlV = .tuple #[.bool b, .int .i64 n, .bool k] := ⟨_, _, _, rfl⟩
set_option maxHeartbeats 8000000 in
set_option maxRecDepth 100000 in
theorem TcframePuts_any (x : Tc) (n : Int) (w : World) : Calls Try.prog 8 #[x.val, .int .i64 n] w fun e w' => e = .returned (.bool true) ∧ Below w.heap.size w w' := by
  have hp1 := Put_any x
  have hp2 := rPut_any x
  have hu1 := Unlock_any x.craft x.chan
  have hu2 := rUnlock_any x.craft x.chan
  have hs1 := SetNext_any x.craft x.chan n
  have hs2 := rSetNext_any x.craft x.chan n
  have hc1 := Control_any x
  have hc2 := rControl_any x
  obtain ⟨ps, pe, hp⟩ := putV_form x
  obtain ⟨⟨u1, u2, u3, u4, u5, u6⟩, ue, hu⟩ := madeV_form x.craft x.chan ⟨#[0]⟩
  obtain ⟨⟨s1, s2, s3, s4, s5, s6⟩, se, hs⟩ := setNextV_form x.craft x.chan n
  obtain ⟨cb, cn, ck, hc⟩ := ctlV_form x
  rw [hp] at hp1 hp2
  rw [hu] at hu1 hu2
  rw [hs] at hs1 hs2
  rw [hc] at hc1 hc2
  obtain ⟨xc, xch, xb, xk, xs, xd⟩ := x
  simp only [Tc.val] at hp1 hp2 hu1 hu2 hs1 hs2 hc1 hc2 ⊢
  have HP1 := Lib.hid hp1; have HP2 := Lib.hid hp2; have HU1 := Lib.hid hu1; have HU2 := Lib.hid hu2
  have HS1 := Lib.hid hs1; have HS2 := Lib.hid hs2; have HC1 := Lib.hid hc1; have HC2 := Lib.hid hc2
  clear hp hu hs hc hp1 hp2 hu1 hu2 hs1 hs2 hc1 hc2
  have HX0 := Lib.hid (Blk.new w [.int .i64 xc, .int .i64 xch, .bool xb, .bool xk, .int .i64 xs, .string xd] 30)
  have HL0 := Lib.hid ((Below.refl w.heap.size w).alloc (Nat.le_refl _) (Obj.cells #[.int .i64 xc, .int .i64 xch, .bool xb, .bool xk, .int .i64 xs, .string xd] 30))
  by_cases h0 : (5000 : Int) < xd.size
  · go_enter Try.func8, Try.ntmps8
    go_wp2_with fail
    refine (shown12_any _).mono ?_
    rintro e w1 ⟨rfl, hL1⟩
    have HX1 := Lib.hid (HX0.out.below hL1 HX0.out.lt)
    have HL1 := Lib.hid (HL0.out.trans (hL1.mono HL0.out.size)); clear hL1 HL0 HX0
    have x0 := HX1.out.cell 0
    have x1 := HX1.out.cell 1
    have x2 := HX1.out.cell 2
    have x3 := HX1.out.cell 3
    have x4 := HX1.out.cell 4
    have x5 := HX1.out.cell 5
    simp only [List.getElem?_cons_zero, List.getElem?_cons_succ] at x0 x1 x2 x3 x4 x5
    go_wp2_with fail
    go_ret
    exact ⟨rfl, HL1.out⟩
  · go_enter Try.func8, Try.ntmps8
    go_wp2_with fail
    refine (shown12_any _).mono ?_
    rintro e w1 ⟨rfl, hL1⟩
    have HX1 := Lib.hid (HX0.out.below hL1 HX0.out.lt)
    have HL1 := Lib.hid (HL0.out.trans (hL1.mono HL0.out.size)); clear hL1 HL0 HX0
    have x0 := HX1.out.cell 0
    have x1 := HX1.out.cell 1
    have x2 := HX1.out.cell 2
    have x3 := HX1.out.cell 3
    have x4 := HX1.out.cell 4
    have x5 := HX1.out.cell 5
    simp only [List.getElem?_cons_zero, List.getElem?_cons_succ] at x0 x1 x2 x3 x4 x5
    go_wp2_with fail
    refine (HP1.out _).mono ?_
    rintro e w2 ⟨rfl, hL2⟩
    have HX2 := Lib.hid (HX1.out.below hL2 HX1.out.lt)
    have HL2 := Lib.hid (HL1.out.trans (hL2.mono HL1.out.size)); clear hL2 HL1 HX1 x0 x1 x2 x3 x4 x5
    have x0 := HX2.out.cell 0
    have x1 := HX2.out.cell 1
    have x2 := HX2.out.cell 2
    have x3 := HX2.out.cell 3
    have x4 := HX2.out.cell 4
    have x5 := HX2.out.cell 5
    simp only [List.getElem?_cons_zero, List.getElem?_cons_succ] at x0 x1 x2 x3 x4 x5
    go_wp2_with fail
    refine (HP2.out _).mono ?_
    rintro e w3 ⟨rfl, hL3⟩
    have HX3 := Lib.hid (HX2.out.below hL3 HX2.out.lt)
    have HL3 := Lib.hid (HL2.out.trans (hL3.mono HL2.out.size)); clear hL3 HL2 HX2 x0 x1 x2 x3 x4 x5
    have x0 := HX3.out.cell 0
    have x1 := HX3.out.cell 1
    have x2 := HX3.out.cell 2
    have x3 := HX3.out.cell 3
    have x4 := HX3.out.cell 4
    have x5 := HX3.out.cell 5
    simp only [List.getElem?_cons_zero, List.getElem?_cons_succ] at x0 x1 x2 x3 x4 x5
    go_wp2_with fail
    refine (HU1.out _).mono ?_
    rintro e w4 ⟨rfl, hL4⟩
    have HX4 := Lib.hid (HX3.out.below hL4 HX3.out.lt)
    have HL4 := Lib.hid (HL3.out.trans (hL4.mono HL3.out.size)); clear hL4 HL3 HX3 x0 x1 x2 x3 x4 x5
    have HX4a := Lib.hid (HX4.out.alloc (Obj.cells #[.int .i64 u1, .int .i64 u2, .bool u3, .bool u4, .int .i64 u5, .string u6] 30))
    have HA4a := Lib.hid (Blk.new w4 [.int .i64 u1, .int .i64 u2, .bool u3, .bool u4, .int .i64 u5, .string u6] 30)
    have HL4a := Lib.hid (HL4.out.alloc HL4.out.size (Obj.cells #[.int .i64 u1, .int .i64 u2, .bool u3, .bool u4, .int .i64 u5, .string u6] 30))
    have hl4 := HX4.out.lt
    have hne4 : w.heap.size ≠ w4.heap.size := Nat.ne_of_lt hl4
    have v0 := HX4.out.cell 0
    have v1 := HX4.out.cell 1
    simp only [List.getElem?_cons_zero, List.getElem?_cons_succ] at v0 v1
    clear HX4 HL4 
    go_wp2_with fail
    refine (HU2.out _).mono ?_
    rintro e w5 ⟨rfl, hL5⟩
    have HX5 := Lib.hid (HX4a.out.below hL5 HX4a.out.lt)
    have HA5 := Lib.hid (HA4a.out.below hL5 HA4a.out.lt)
    have HL5 := Lib.hid (HL4a.out.trans (hL5.mono HL4a.out.size))
    clear hL5 HX4a HL4a HA4a v0 v1
    have x0 := HX5.out.cell 0
    have x1 := HX5.out.cell 1
    have x2 := HX5.out.cell 2
    have x3 := HX5.out.cell 3
    have x4 := HX5.out.cell 4
    have x5 := HX5.out.cell 5
    simp only [List.getElem?_cons_zero, List.getElem?_cons_succ] at x0 x1 x2 x3 x4 x5
    clear x0 x1 x2 x3 x4 x5
    have HX5a := Lib.hid (HX5.out.alloc (Obj.cells #[.int .i64 u1, .int .i64 u2, .bool u3, .bool u4, .int .i64 u5, .string u6] 30))
    have HA5a := Lib.hid (HA5.out.alloc (Obj.cells #[.int .i64 u1, .int .i64 u2, .bool u3, .bool u4, .int .i64 u5, .string u6] 30))
    have HB5a := Lib.hid (Blk.new w5 [.int .i64 u1, .int .i64 u2, .bool u3, .bool u4, .int .i64 u5, .string u6] 30)
    have HL5a := Lib.hid (HL5.out.alloc HL5.out.size (Obj.cells #[.int .i64 u1, .int .i64 u2, .bool u3, .bool u4, .int .i64 u5, .string u6] 30))
    have hl5 := HX5.out.lt
    have hne5 : w.heap.size ≠ w5.heap.size := Nat.ne_of_lt hl5
    have hbHA5 := HA5.out.lt
    have v0 := HX5.out.cell 0
    have v1 := HX5.out.cell 1
    simp only [List.getElem?_cons_zero, List.getElem?_cons_succ] at v0 v1
    clear HX5 HL5 HA5
    go_wp2_with fail
    refine (HS1.out _).mono ?_
    rintro e w6 ⟨rfl, hL6⟩
    have HX6 := Lib.hid (HX5a.out.below hL6 HX5a.out.lt)
    have HA6 := Lib.hid (HA5a.out.below hL6 HA5a.out.lt)
    have HB6 := Lib.hid (HB5a.out.below hL6 HB5a.out.lt)
    have HL6 := Lib.hid (HL5a.out.trans (hL6.mono HL5a.out.size))
    clear hL6 HX5a HL5a HA5a HB5a v0 v1
    have HX6a := Lib.hid (HX6.out.alloc (Obj.cells #[.int .i64 s1, .int .i64 s2, .bool s3, .bool s4, .int .i64 s5, .string s6] 30))
    have HA6a := Lib.hid (HA6.out.alloc (Obj.cells #[.int .i64 s1, .int .i64 s2, .bool s3, .bool s4, .int .i64 s5, .string s6] 30))
    have HB6a := Lib.hid (HB6.out.alloc (Obj.cells #[.int .i64 s1, .int .i64 s2, .bool s3, .bool s4, .int .i64 s5, .string s6] 30))
    have HC6a := Lib.hid (Blk.new w6 [.int .i64 s1, .int .i64 s2, .bool s3, .bool s4, .int .i64 s5, .string s6] 30)
    have HL6a := Lib.hid (HL6.out.alloc HL6.out.size (Obj.cells #[.int .i64 s1, .int .i64 s2, .bool s3, .bool s4, .int .i64 s5, .string s6] 30))
    have hl6 := HX6.out.lt
    have hne6 : w.heap.size ≠ w6.heap.size := Nat.ne_of_lt hl6
    have hbHA6 := HA6.out.lt
    have hbHB6 := HB6.out.lt
    have v0 := HX6.out.cell 0
    have v1 := HX6.out.cell 1
    simp only [List.getElem?_cons_zero, List.getElem?_cons_succ] at v0 v1
    clear HX6 HL6 HA6 HB6
    go_wp2_with fail
    refine (HS2.out _).mono ?_
    rintro e w7 ⟨rfl, hL7⟩
    have HX7 := Lib.hid (HX6a.out.below hL7 HX6a.out.lt)
    have HA7 := Lib.hid (HA6a.out.below hL7 HA6a.out.lt)
    have HB7 := Lib.hid (HB6a.out.below hL7 HB6a.out.lt)
    have HC7 := Lib.hid (HC6a.out.below hL7 HC6a.out.lt)
    have HL7 := Lib.hid (HL6a.out.trans (hL7.mono HL6a.out.size))
    clear hL7 HX6a HL6a HA6a HB6a HC6a v0 v1
    have HX7a := Lib.hid (HX7.out.alloc (Obj.cells #[.int .i64 s1, .int .i64 s2, .bool s3, .bool s4, .int .i64 s5, .string s6] 30))
    have HA7a := Lib.hid (HA7.out.alloc (Obj.cells #[.int .i64 s1, .int .i64 s2, .bool s3, .bool s4, .int .i64 s5, .string s6] 30))
    have HB7a := Lib.hid (HB7.out.alloc (Obj.cells #[.int .i64 s1, .int .i64 s2, .bool s3, .bool s4, .int .i64 s5, .string s6] 30))
    have HC7a := Lib.hid (HC7.out.alloc (Obj.cells #[.int .i64 s1, .int .i64 s2, .bool s3, .bool s4, .int .i64 s5, .string s6] 30))
    have HD7a := Lib.hid (Blk.new w7 [.int .i64 s1, .int .i64 s2, .bool s3, .bool s4, .int .i64 s5, .string s6] 30)
    have HL7a := Lib.hid (HL7.out.alloc HL7.out.size (Obj.cells #[.int .i64 s1, .int .i64 s2, .bool s3, .bool s4, .int .i64 s5, .string s6] 30))
    have hl7 := HX7.out.lt
    have hne7 : w.heap.size ≠ w7.heap.size := Nat.ne_of_lt hl7
    have hbHA7 := HA7.out.lt
    have hbHB7 := HB7.out.lt
    have hbHC7 := HC7.out.lt
    have v0 := HX7.out.cell 0
    have v1 := HX7.out.cell 1
    simp only [List.getElem?_cons_zero, List.getElem?_cons_succ] at v0 v1
    clear HX7 HL7 HA7 HB7 HC7
    have x0 := HX7a.out.cell 0
    have x1 := HX7a.out.cell 1
    have x2 := HX7a.out.cell 2
    have x3 := HX7a.out.cell 3
    have x4 := HX7a.out.cell 4
    have x5 := HX7a.out.cell 5
    simp only [List.getElem?_cons_zero, List.getElem?_cons_succ] at x0 x1 x2 x3 x4 x5
    clear v0 v1
    go_wp2_with fail
    refine (HC1.out _).mono ?_
    rintro e w8 ⟨rfl, hL8⟩
    have HX8 := Lib.hid (HX7a.out.below hL8 HX7a.out.lt)
    have HA8 := Lib.hid (HA7a.out.below hL8 HA7a.out.lt)
    have HB8 := Lib.hid (HB7a.out.below hL8 HB7a.out.lt)
    have HC8 := Lib.hid (HC7a.out.below hL8 HC7a.out.lt)
    have HD8 := Lib.hid (HD7a.out.below hL8 HD7a.out.lt)
    have HL8 := Lib.hid (HL7a.out.trans (hL8.mono HL7a.out.size))
    clear hL8 HX7a HL7a HA7a HB7a HC7a HD7a x0 x1 x2 x3 x4 x5
    have x0 := HX8.out.cell 0
    have x1 := HX8.out.cell 1
    have x2 := HX8.out.cell 2
    have x3 := HX8.out.cell 3
    have x4 := HX8.out.cell 4
    have x5 := HX8.out.cell 5
    simp only [List.getElem?_cons_zero, List.getElem?_cons_succ] at x0 x1 x2 x3 x4 x5
    go_wp2_with fail
    refine (HC2.out _).mono ?_
    rintro e w9 ⟨rfl, hL9⟩
    have HX9 := Lib.hid (HX8.out.below hL9 HX8.out.lt)
    have HA9 := Lib.hid (HA8.out.below hL9 HA8.out.lt)
    have HB9 := Lib.hid (HB8.out.below hL9 HB8.out.lt)
    have HC9 := Lib.hid (HC8.out.below hL9 HC8.out.lt)
    have HD9 := Lib.hid (HD8.out.below hL9 HD8.out.lt)
    have HL9 := Lib.hid (HL8.out.trans (hL9.mono HL8.out.size))
    clear hL9 HX8 HL8 HA8 HB8 HC8 HD8 x0 x1 x2 x3 x4 x5
    have a0 := HA9.out.cell 0
    have a1 := HA9.out.cell 1
    have a2 := HA9.out.cell 2
    have a3 := HA9.out.cell 3
    have a4 := HA9.out.cell 4
    have a5 := HA9.out.cell 5
    simp only [List.getElem?_cons_zero, List.getElem?_cons_succ] at a0 a1 a2 a3 a4 a5
    have b0 := HB9.out.cell 0
    have b1 := HB9.out.cell 1
    have b2 := HB9.out.cell 2
    have b3 := HB9.out.cell 3
    have b4 := HB9.out.cell 4
    have b5 := HB9.out.cell 5
    simp only [List.getElem?_cons_zero, List.getElem?_cons_succ] at b0 b1 b2 b3 b4 b5
    have c0 := HC9.out.cell 0
    have c1 := HC9.out.cell 1
    have c2 := HC9.out.cell 2
    have c3 := HC9.out.cell 3
    have c4 := HC9.out.cell 4
    have c5 := HC9.out.cell 5
    simp only [List.getElem?_cons_zero, List.getElem?_cons_succ] at c0 c1 c2 c3 c4 c5
    have d0 := HD9.out.cell 0
    have d1 := HD9.out.cell 1
    have d2 := HD9.out.cell 2
    have d3 := HD9.out.cell 3
    have d4 := HD9.out.cell 4
    have d5 := HD9.out.cell 5
    simp only [List.getElem?_cons_zero, List.getElem?_cons_succ] at d0 d1 d2 d3 d4 d5
    go_wp2_with fail
    go_ret
    exact ⟨rfl, HL9.out⟩
end Go.Proofs.Ytebgehmgjafblaa
