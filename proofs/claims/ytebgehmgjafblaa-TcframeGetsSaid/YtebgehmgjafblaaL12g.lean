/- What is proved here: the walk of the law about read frames. -/
import Derived.Test.YtebgehmgjafblaaH12
import Derived.Test.YtebgehmgjafblaaG5
import Derived.Deep.DeepCutAuto
set_option linter.unusedVariables false
set_option linter.unusedSimpArgs false
namespace Go.Proofs.Ytebgehmgjafblaa
open Go.RowKit
theorem frontV_form (b : ByteArray) : ∃ (r : Tc) (n e : Int), frontV b = .tuple #[r.val, .int .i64 n, .int .i64 e] := by
  unfold frontV
  split
  · exact ⟨_, _, _, rfl⟩
  · split
    · exact ⟨_, _, _, rfl⟩
    · exact ⟨_, _, _, rfl⟩
set_option maxHeartbeats 8000000 in
set_option maxRecDepth 100000 in
theorem TcframeGets_any (b : ByteArray) (w : World) : Calls Try.prog 13 #[.string b] w fun e w' => e = .returned (.bool true) ∧ Below w.heap.size w w' := by
  have hp1 := Get_any b
  have hp2 := rGet_any b
  have hu1 := Front_any b
  have hu2 := rFront_any b
  rw [getV_eq] at hp1 hp2
  obtain ⟨⟨⟨u1, u2, u3, u4, u5, u6⟩, ue⟩, hg⟩ : ∃ r, r = getP b := ⟨_, rfl⟩
  obtain ⟨⟨s1, s2, s3, s4, s5, s6⟩, sn, se, hf⟩ := frontV_form b
  rw [← hg] at hp1 hp2
  rw [hf] at hu1 hu2
  dsimp only [Tc.val] at hp1 hp2 hu1 hu2
  have HP1 := Lib.hid hp1; have HP2 := Lib.hid hp2; have HU1 := Lib.hid hu1; have HU2 := Lib.hid hu2
  clear hp1 hp2 hu1 hu2 hg hf
  by_cases h0 : (5000 : Int) < b.size
  · go_enter Try.func13, Try.ntmps13
    go_wp2_with fail
    refine (shown12_any _).mono ?_
    rintro e w1 ⟨rfl, hL1⟩
    have HL1 := Lib.hid hL1; clear hL1
    go_wp2_with fail
    go_ret
    exact ⟨rfl, HL1.out⟩
  · go_enter Try.func13, Try.ntmps13
    go_wp2_with fail
    refine (shown12_any _).mono ?_
    rintro e w1 ⟨rfl, hL1⟩
    have HL1a := Lib.hid hL1; clear hL1
    go_wp2_with fail
    refine (HP1.out _).mono ?_
    rintro e w2 ⟨rfl, hL2⟩
    have HL2 := Lib.hid (HL1a.out.trans (hL2.mono HL1a.out.size))
    clear hL2 HL1a 
    have HA2a := Lib.hid (Blk.new w2 [.int .i64 u1, .int .i64 u2, .bool u3, .bool u4, .int .i64 u5, .string u6] 30)
    have HL2a := Lib.hid (HL2.out.alloc HL2.out.size (Obj.cells #[.int .i64 u1, .int .i64 u2, .bool u3, .bool u4, .int .i64 u5, .string u6] 30))
    clear HL2 
    go_wp2_with fail
    refine (HP2.out _).mono ?_
    rintro e w3 ⟨rfl, hL3⟩
    have HL3 := Lib.hid (HL2a.out.trans (hL3.mono HL2a.out.size))
    have HA3 := Lib.hid (HA2a.out.below hL3 HA2a.out.lt)
    clear hL3 HL2a HA2a
    have HA3a := Lib.hid (HA3.out.alloc (Obj.cells #[.int .i64 u1, .int .i64 u2, .bool u3, .bool u4, .int .i64 u5, .string u6] 30))
    have hbHA3 := Nat.ne_of_lt HA3.out.lt
    have HB3a := Lib.hid (Blk.new w3 [.int .i64 u1, .int .i64 u2, .bool u3, .bool u4, .int .i64 u5, .string u6] 30)
    have HL3a := Lib.hid (HL3.out.alloc HL3.out.size (Obj.cells #[.int .i64 u1, .int .i64 u2, .bool u3, .bool u4, .int .i64 u5, .string u6] 30))
    clear HL3 HA3
    go_wp2_with fail
    refine (HU1.out _).mono ?_
    rintro e w4 ⟨rfl, hL4⟩
    have HL4 := Lib.hid (HL3a.out.trans (hL4.mono HL3a.out.size))
    have HA4 := Lib.hid (HA3a.out.below hL4 HA3a.out.lt)
    have HB4 := Lib.hid (HB3a.out.below hL4 HB3a.out.lt)
    clear hL4 HL3a HA3a HB3a
    have HA4a := Lib.hid (HA4.out.alloc (Obj.cells #[.int .i64 s1, .int .i64 s2, .bool s3, .bool s4, .int .i64 s5, .string s6] 30))
    have hbHA4 := Nat.ne_of_lt HA4.out.lt
    have HB4a := Lib.hid (HB4.out.alloc (Obj.cells #[.int .i64 s1, .int .i64 s2, .bool s3, .bool s4, .int .i64 s5, .string s6] 30))
    have hbHB4 := Nat.ne_of_lt HB4.out.lt
    have HC4a := Lib.hid (Blk.new w4 [.int .i64 s1, .int .i64 s2, .bool s3, .bool s4, .int .i64 s5, .string s6] 30)
    have HL4a := Lib.hid (HL4.out.alloc HL4.out.size (Obj.cells #[.int .i64 s1, .int .i64 s2, .bool s3, .bool s4, .int .i64 s5, .string s6] 30))
    clear HL4 HA4 HB4
    go_wp2_with fail
    refine (HU2.out _).mono ?_
    rintro e w5 ⟨rfl, hL5⟩
    have HL5 := Lib.hid (HL4a.out.trans (hL5.mono HL4a.out.size))
    have HA5 := Lib.hid (HA4a.out.below hL5 HA4a.out.lt)
    have HB5 := Lib.hid (HB4a.out.below hL5 HB4a.out.lt)
    have HC5 := Lib.hid (HC4a.out.below hL5 HC4a.out.lt)
    clear hL5 HL4a HA4a HB4a HC4a
    have HA5a := Lib.hid (HA5.out.alloc (Obj.cells #[.int .i64 s1, .int .i64 s2, .bool s3, .bool s4, .int .i64 s5, .string s6] 30))
    have hbHA5 := Nat.ne_of_lt HA5.out.lt
    have HB5a := Lib.hid (HB5.out.alloc (Obj.cells #[.int .i64 s1, .int .i64 s2, .bool s3, .bool s4, .int .i64 s5, .string s6] 30))
    have hbHB5 := Nat.ne_of_lt HB5.out.lt
    have HC5a := Lib.hid (HC5.out.alloc (Obj.cells #[.int .i64 s1, .int .i64 s2, .bool s3, .bool s4, .int .i64 s5, .string s6] 30))
    have hbHC5 := Nat.ne_of_lt HC5.out.lt
    have HD5a := Lib.hid (Blk.new w5 [.int .i64 s1, .int .i64 s2, .bool s3, .bool s4, .int .i64 s5, .string s6] 30)
    have HL5a := Lib.hid (HL5.out.alloc HL5.out.size (Obj.cells #[.int .i64 s1, .int .i64 s2, .bool s3, .bool s4, .int .i64 s5, .string s6] 30))
    clear HL5 HA5 HB5 HC5
    go_upto_region 9 with fail
    refine gen_world (fun W => Below w.heap.size w W ∧ Blk W w2.heap.size [.int .i64 u1, .int .i64 u2, .bool u3, .bool u4, .int .i64 u5, .string u6] 30 ∧ Blk W w3.heap.size [.int .i64 u1, .int .i64 u2, .bool u3, .bool u4, .int .i64 u5, .string u6] 30 ∧ Blk W w4.heap.size [.int .i64 s1, .int .i64 s2, .bool s3, .bool s4, .int .i64 s5, .string s6] 30 ∧ Blk W w5.heap.size [.int .i64 s1, .int .i64 s2, .bool s3, .bool s4, .int .i64 s5, .string s6] 30) ⟨HL5a.out, HA5a.out, HB5a.out, HC5a.out, HD5a.out⟩ ?_
    rintro w9 ⟨hL9, hA9, hB9, hC9, hD9⟩
    have HL9 := Lib.hid hL9; have HA9 := Lib.hid hA9; have HB9 := Lib.hid hB9; have HC9 := Lib.hid hC9; have HD9 := Lib.hid hD9
    clear hL9 hA9 hB9 hC9 hD9 HL5a HA5a HB5a HC5a HD5a
    have a0 := HA9.out.cell 0
    have a1 := HA9.out.cell 1
    have a2 := HA9.out.cell 2
    have a3 := HA9.out.cell 3
    have a4 := HA9.out.cell 4
    have a5 := HA9.out.cell 5
    simp only [List.getElem?_cons_zero, List.getElem?_cons_succ] at a0 a1 a2 a3 a4 a5
    have b0 := HB9.out.cell 0
    have b1 := HB9.out.cell 1
    have b2 := HB9.out.cell 2
    have b3 := HB9.out.cell 3
    have b4 := HB9.out.cell 4
    have b5 := HB9.out.cell 5
    simp only [List.getElem?_cons_zero, List.getElem?_cons_succ] at b0 b1 b2 b3 b4 b5
    have c0 := HC9.out.cell 0
    have c1 := HC9.out.cell 1
    have c2 := HC9.out.cell 2
    have c3 := HC9.out.cell 3
    have c4 := HC9.out.cell 4
    have c5 := HC9.out.cell 5
    simp only [List.getElem?_cons_zero, List.getElem?_cons_succ] at c0 c1 c2 c3 c4 c5
    have d0 := HD9.out.cell 0
    have d1 := HD9.out.cell 1
    have d2 := HD9.out.cell 2
    have d3 := HD9.out.cell 3
    have d4 := HD9.out.cell 4
    have d5 := HD9.out.cell 5
    simp only [List.getElem?_cons_zero, List.getElem?_cons_succ] at d0 d1 d2 d3 d4 d5
    go_wp2_with fail
    go_ret
    exact ⟨rfl, HL9.out⟩
end Go.Proofs.Ytebgehmgjafblaa
