/- What is proved here: the walk of the law about frames got back. -/
import Derived.Test.YtebgehmgjafblaaH12
import Derived.Test.YtebgehmgjafblaaP12b
import Derived.Deep.DeepCutAuto
set_option linter.unusedVariables false
set_option linter.unusedSimpArgs false
namespace Go.Proofs.Ytebgehmgjafblaa
open Go.RowKit
set_option maxHeartbeats 8000000 in
set_option maxRecDepth 100000 in
theorem TcframeBack_any (f : Tc) (after : ByteArray) (w : World) : Calls Try.prog 14 #[f.val, .string after] w fun e w' => e = .returned (.bool true) ∧ Below w.heap.size w w' := by
  have hga := Get_any after
  rw [getV_eq] at hga
  obtain ⟨⟨x, ge⟩, hg⟩ : ∃ r, r = getP after := ⟨_, rfl⟩
  rw [← hg] at hga
  have hpx : ge = 0 → ∀ w, Calls Try.prog 29 #[x.val] w fun e w' => e = .returned (.tuple #[.string after, .int .i64 0]) ∧ Below w.heap.size w w' := by
    intro h w
    subst h
    obtain ⟨h1, h2⟩ := getP_ok after x hg.symm
    have h := Put_any x w
    unfold Tc.putV at h
    rw [if_pos h1, h2] at h
    exact h
  have hpf := Put_any f
  unfold Tc.putV at hpf
  have hgs : f.good = true → ∀ w, Calls Try.prog 47 #[.string ⟨f.enc.toArray⟩] w fun e w' => e = .returned (.tuple #[f.val, .int .i64 0]) ∧ Below w.heap.size w w' := by
    intro h w
    have h2 := Get_any ⟨f.enc.toArray⟩ w
    rw [getV_eq, getP_enc f h] at h2
    exact h2
  have hfs : f.good = true → ∀ w, Calls Try.prog 49 #[.string (⟨f.enc.toArray⟩ ++ after)] w fun e w' => e = .returned (.tuple #[f.val, .int .i64 ((⟨f.enc.toArray⟩ : ByteArray).size : Nat), .int .i64 0]) ∧ Below w.heap.size w w' := by
    intro h w
    have h2 := Front_any (⟨f.enc.toArray⟩ ++ after) w
    obtain ⟨_, _, e3, _, _⟩ := enc_nat2 f h
    rw [front_enc f after h, show f.data.size + 7 = (⟨f.enc.toArray⟩ : ByteArray).size by show _ = f.enc.toArray.size; simp [e3]] at h2
    exact h2
  have hes : f.good = true → (⟨f.enc.toArray⟩ : ByteArray).size ≤ 207 := by
    intro h
    obtain ⟨_, _, e3, _, _⟩ := enc_nat2 f h
    obtain ⟨_, _, _, _, _, _, _, h5, _, _⟩ := f.good_nat h
    show f.enc.toArray.size ≤ 207
    simp [e3]; omega
  obtain ⟨es, he⟩ : ∃ es : ByteArray, es = ⟨f.enc.toArray⟩ := ⟨_, rfl⟩
  rw [show strOf f.enc = .string es by rw [he]; rfl] at hpf
  rw [← he] at hgs hfs hes
  obtain ⟨gd, hgd⟩ : ∃ gd, gd = f.good := ⟨_, rfl⟩
  rw [← hgd] at hpf hgs hfs hes
  obtain ⟨fc, fch, fb, fk, fs, fd⟩ := f
  obtain ⟨u1, u2, u3, u4, u5, u6⟩ := x
  dsimp only [Tc.val, strOf] at hga hpx hpf hgs hfs ⊢
  have HGA := Lib.hid hga; have HPX := Lib.hid hpx; have HPF := Lib.hid hpf; have HGS := Lib.hid hgs; have HFS := Lib.hid hfs; have HES := Lib.hid hes
  clear hga hpx hpf hgs hfs hes he hgd hg
  have HX0 := Lib.hid (Blk.new w [.int .i64 fc, .int .i64 fch, .bool fb, .bool fk, .int .i64 fs, .string fd] 30)
  have HL0 := Lib.hid ((Below.refl w.heap.size w).alloc (Nat.le_refl _) (Obj.cells #[.int .i64 fc, .int .i64 fch, .bool fb, .bool fk, .int .i64 fs, .string fd] 30))
  by_cases h0 : (5000 : Int) < fd.size
  · go_enter Try.func14, Try.ntmps14
    go_wp2_with fail
    refine (shown12_any _).mono ?_
    rintro e w1 ⟨rfl, hL1⟩
    have HX1 := Lib.hid (HX0.out.below hL1 HX0.out.lt)
    have HL1 := Lib.hid (HL0.out.trans (hL1.mono HL0.out.size)); clear hL1 HL0 HX0
    have x0 := HX1.out.cell 0
    have x1 := HX1.out.cell 1
    have x2 := HX1.out.cell 2
    have x3 := HX1.out.cell 3
    have x4 := HX1.out.cell 4
    have x5 := HX1.out.cell 5
    simp only [List.getElem?_cons_zero, List.getElem?_cons_succ] at x0 x1 x2 x3 x4 x5
    go_wp2_with fail
    go_ret
    exact ⟨rfl, HL1.out⟩
  · by_cases h1 : (5000 : Int) < after.size
    · go_enter Try.func14, Try.ntmps14
      go_wp2_with fail
      refine (shown12_any _).mono ?_
      rintro e w1 ⟨rfl, hL1⟩
      have HX1 := Lib.hid (HX0.out.below hL1 HX0.out.lt)
      have HL1 := Lib.hid (HL0.out.trans (hL1.mono HL0.out.size)); clear hL1 HL0 HX0
      have x0 := HX1.out.cell 0
      have x1 := HX1.out.cell 1
      have x2 := HX1.out.cell 2
      have x3 := HX1.out.cell 3
      have x4 := HX1.out.cell 4
      have x5 := HX1.out.cell 5
      simp only [List.getElem?_cons_zero, List.getElem?_cons_succ] at x0 x1 x2 x3 x4 x5
      go_wp2_with fail
      go_ret
      exact ⟨rfl, HL1.out⟩
    · go_enter Try.func14, Try.ntmps14
      go_wp2_with fail
      refine (shown12_any _).mono ?_
      rintro e w1 ⟨rfl, hL1⟩
      have HX1 := Lib.hid (HX0.out.below hL1 HX0.out.lt)
      have HL1 := Lib.hid (HL0.out.trans (hL1.mono HL0.out.size)); clear hL1 HL0 HX0
      have x0 := HX1.out.cell 0
      have x1 := HX1.out.cell 1
      have x2 := HX1.out.cell 2
      have x3 := HX1.out.cell 3
      have x4 := HX1.out.cell 4
      have x5 := HX1.out.cell 5
      simp only [List.getElem?_cons_zero, List.getElem?_cons_succ] at x0 x1 x2 x3 x4 x5
      go_wp2_with fail
      refine (HGA.out _).mono ?_
      rintro e w2 ⟨rfl, hL2⟩
      have HX2 := Lib.hid (HX1.out.below hL2 HX1.out.lt)
      have HL2 := Lib.hid (HL1.out.trans (hL2.mono HL1.out.size)); clear hL2 HL1 HX1 x0 x1 x2 x3 x4 x5
      have hne := Nat.ne_of_lt HX2.out.lt
      go_upto_region 6 with fail
      refine gen_world (fun W => Below w.heap.size w W ∧ Blk W w.heap.size [.int .i64 fc, .int .i64 fch, .bool fb, .bool fk, .int .i64 fs, .string fd] 30 ∧ Blk W w2.heap.size [.int .i64 u1, .int .i64 u2, .bool u3, .bool u4, .int .i64 u5, .string u6] 30) ⟨HL2.out.alloc HL2.out.size _, HX2.out.alloc _, Blk.new w2 _ _⟩ ?_
      rintro w3 ⟨hL3, hX3, hU3⟩
      have HL3 := Lib.hid hL3; have HX3 := Lib.hid hX3; have HU3 := Lib.hid hU3
      clear hL3 hX3 hU3 HL2 HX2
      have x0 := HX3.out.cell 0
      have x1 := HX3.out.cell 1
      have x2 := HX3.out.cell 2
      have x3 := HX3.out.cell 3
      have x4 := HX3.out.cell 4
      have x5 := HX3.out.cell 5
      simp only [List.getElem?_cons_zero, List.getElem?_cons_succ] at x0 x1 x2 x3 x4 x5
      have r0 := HU3.out.cell 0
      have r1 := HU3.out.cell 1
      have r2 := HU3.out.cell 2
      have r3 := HU3.out.cell 3
      have r4 := HU3.out.cell 4
      have r5 := HU3.out.cell 5
      simp only [List.getElem?_cons_zero, List.getElem?_cons_succ] at r0 r1 r2 r3 r4 r5
      by_cases hge : ge = 0
      · have HPX := Lib.hid (HPX.out hge)
        have hk : (ge == 0) = true := by simp [hge]
        have hss : (after.toList == after.toList) = true := by simp
        have HGE := Lib.hid hge
        clear hge
        go_wp2_with fail
        refine (HPX.out _).mono ?_
        rintro e w4 ⟨rfl, hL4⟩
        have HX4 := Lib.hid (HX3.out.below hL4 HX3.out.lt)
        have HL4 := Lib.hid (HL3.out.trans (hL4.mono HL3.out.size)); clear hL4 HL3 HX3 HU3 x0 x1 x2 x3 x4 x5 
        have x0 := HX4.out.cell 0
        have x1 := HX4.out.cell 1
        have x2 := HX4.out.cell 2
        have x3 := HX4.out.cell 3
        have x4 := HX4.out.cell 4
        have x5 := HX4.out.cell 5
        simp only [List.getElem?_cons_zero, List.getElem?_cons_succ] at x0 x1 x2 x3 x4 x5
        cases gd
        · go_wp2_with fail
          refine (HPF.out _).mono ?_
          rintro e w5 ⟨rfl, hL5⟩
          have HL5 := Lib.hid (HL4.out.trans (hL5.mono HL4.out.size)); clear hL5
          go_wp2_with fail
          go_ret
          exact ⟨rfl, HL5.out⟩
        · have hes := HES.out rfl
          have hb : ¬ (9223372036854775807 : Int) < es.size + after.size := by omega
          have HPF := Lib.hid (show ∀ w, Calls Try.prog 29 #[.agg #[.int .i64 fc, .int .i64 fch, .bool fb, .bool fk, .int .i64 fs, .string fd]] w fun e w' => e = .returned (.tuple #[.string es, .int .i64 0]) ∧ Below w.heap.size w w' from HPF.out)
          go_wp2_with fail
          refine (HPF.out _).mono ?_
          rintro e w5 ⟨rfl, hL5⟩
          have HX5 := Lib.hid (HX4.out.below hL5 HX4.out.lt)
          have HL5 := Lib.hid (HL4.out.trans (hL5.mono HL4.out.size)); clear hL5 HL4 HX4 x0 x1 x2 x3 x4 x5
          go_wp2_with fail
          refine (HGS.out (by simp) _).mono ?_
          rintro e w6 ⟨rfl, hL6⟩
          have HX6 := Lib.hid (HX5.out.below hL6 HX5.out.lt)
          have HL6 := Lib.hid (HL5.out.trans (hL6.mono HL5.out.size)); clear hL6 HL5 HX5
          have hn6 := Nat.ne_of_lt HX6.out.lt
          have HX7 := Lib.hid (HX6.out.alloc (Obj.cells #[.int .i64 fc, .int .i64 fch, .bool fb, .bool fk, .int .i64 fs, .string fd] 30))
          have HY7 := Lib.hid (Blk.new w6 [.int .i64 fc, .int .i64 fch, .bool fb, .bool fk, .int .i64 fs, .string fd] 30)
          have HL7 := Lib.hid (HL6.out.alloc HL6.out.size (Obj.cells #[.int .i64 fc, .int .i64 fch, .bool fb, .bool fk, .int .i64 fs, .string fd] 30))
          clear HX6 HL6
          go_wp2_with fail
          refine (HFS.out (by simp) _).mono ?_
          rintro e w8 ⟨rfl, hL8⟩
          have HX8 := Lib.hid (HX7.out.below hL8 HX7.out.lt)
          have HY8 := Lib.hid (HY7.out.below hL8 HY7.out.lt)
          have HL8 := Lib.hid (HL7.out.trans (hL8.mono HL7.out.size)); clear hL8 HL7 HX7 HY7
          have hn8 := Nat.ne_of_lt HX8.out.lt
          have hn9 := Nat.ne_of_lt HY8.out.lt
          go_upto_region 15 with fail
          refine gen_world (fun W => Below w.heap.size w W ∧ Blk W w.heap.size [.int .i64 fc, .int .i64 fch, .bool fb, .bool fk, .int .i64 fs, .string fd] 30 ∧ Blk W w6.heap.size [.int .i64 fc, .int .i64 fch, .bool fb, .bool fk, .int .i64 fs, .string fd] 30 ∧ Blk W w8.heap.size [.int .i64 fc, .int .i64 fch, .bool fb, .bool fk, .int .i64 fs, .string fd] 30) ⟨HL8.out.alloc HL8.out.size _, HX8.out.alloc _, HY8.out.alloc _, Blk.new w8 _ _⟩ ?_
          rintro w9 ⟨hL9, hX9, hY9, hZ9⟩
          have HL9 := Lib.hid hL9; have HX9 := Lib.hid hX9; have HY9 := Lib.hid hY9; have HZ9 := Lib.hid hZ9
          clear hL9 hX9 hY9 hZ9 HL8 HX8 HY8
          have x0 := HX9.out.cell 0
          have x1 := HX9.out.cell 1
          have x2 := HX9.out.cell 2
          have x3 := HX9.out.cell 3
          have x4 := HX9.out.cell 4
          have x5 := HX9.out.cell 5
          simp only [List.getElem?_cons_zero, List.getElem?_cons_succ] at x0 x1 x2 x3 x4 x5
          have y0 := HY9.out.cell 0
          have y1 := HY9.out.cell 1
          have y2 := HY9.out.cell 2
          have y3 := HY9.out.cell 3
          have y4 := HY9.out.cell 4
          have y5 := HY9.out.cell 5
          simp only [List.getElem?_cons_zero, List.getElem?_cons_succ] at y0 y1 y2 y3 y4 y5
          have z0 := HZ9.out.cell 0
          have z1 := HZ9.out.cell 1
          have z2 := HZ9.out.cell 2
          have z3 := HZ9.out.cell 3
          have z4 := HZ9.out.cell 4
          have z5 := HZ9.out.cell 5
          simp only [List.getElem?_cons_zero, List.getElem?_cons_succ] at z0 z1 z2 z3 z4 z5
          go_wp2_with fail
          go_ret
          exact ⟨rfl, HL9.out⟩
      · have hk : (ge == 0) = false := by simpa using hge
        have HGE := Lib.hid hge
        clear hge
        cases gd
        · go_wp2_with fail
          refine (HPF.out _).mono ?_
          rintro e w5 ⟨rfl, hL5⟩
          have HL5 := Lib.hid (HL3.out.trans (hL5.mono HL3.out.size)); clear hL5
          go_wp2_with fail
          go_ret
          exact ⟨rfl, HL5.out⟩
        · have hes := HES.out rfl
          have hb : ¬ (9223372036854775807 : Int) < es.size + after.size := by omega
          have HPF := Lib.hid (show ∀ w, Calls Try.prog 29 #[.agg #[.int .i64 fc, .int .i64 fch, .bool fb, .bool fk, .int .i64 fs, .string fd]] w fun e w' => e = .returned (.tuple #[.string es, .int .i64 0]) ∧ Below w.heap.size w w' from HPF.out)
          go_wp2_with fail
          refine (HPF.out _).mono ?_
          rintro e w5 ⟨rfl, hL5⟩
          have HX5 := Lib.hid (HX3.out.below hL5 HX3.out.lt)
          have HL5 := Lib.hid (HL3.out.trans (hL5.mono HL3.out.size)); clear hL5 HL3 HX3 x0 x1 x2 x3 x4 x5
          go_wp2_with fail
          refine (HGS.out (by simp) _).mono ?_
          rintro e w6 ⟨rfl, hL6⟩
          have HX6 := Lib.hid (HX5.out.below hL6 HX5.out.lt)
          have HL6 := Lib.hid (HL5.out.trans (hL6.mono HL5.out.size)); clear hL6 HL5 HX5
          have hn6 := Nat.ne_of_lt HX6.out.lt
          have HX7 := Lib.hid (HX6.out.alloc (Obj.cells #[.int .i64 fc, .int .i64 fch, .bool fb, .bool fk, .int .i64 fs, .string fd] 30))
          have HY7 := Lib.hid (Blk.new w6 [.int .i64 fc, .int .i64 fch, .bool fb, .bool fk, .int .i64 fs, .string fd] 30)
          have HL7 := Lib.hid (HL6.out.alloc HL6.out.size (Obj.cells #[.int .i64 fc, .int .i64 fch, .bool fb, .bool fk, .int .i64 fs, .string fd] 30))
          clear HX6 HL6
          go_wp2_with fail
          refine (HFS.out (by simp) _).mono ?_
          rintro e w8 ⟨rfl, hL8⟩
          have HX8 := Lib.hid (HX7.out.below hL8 HX7.out.lt)
          have HY8 := Lib.hid (HY7.out.below hL8 HY7.out.lt)
          have HL8 := Lib.hid (HL7.out.trans (hL8.mono HL7.out.size)); clear hL8 HL7 HX7 HY7
          have hn8 := Nat.ne_of_lt HX8.out.lt
          have hn9 := Nat.ne_of_lt HY8.out.lt
          go_upto_region 15 with fail
          refine gen_world (fun W => Below w.heap.size w W ∧ Blk W w.heap.size [.int .i64 fc, .int .i64 fch, .bool fb, .bool fk, .int .i64 fs, .string fd] 30 ∧ Blk W w6.heap.size [.int .i64 fc, .int .i64 fch, .bool fb, .bool fk, .int .i64 fs, .string fd] 30 ∧ Blk W w8.heap.size [.int .i64 fc, .int .i64 fch, .bool fb, .bool fk, .int .i64 fs, .string fd] 30) ⟨HL8.out.alloc HL8.out.size _, HX8.out.alloc _, HY8.out.alloc _, Blk.new w8 _ _⟩ ?_
          rintro w9 ⟨hL9, hX9, hY9, hZ9⟩
          have HL9 := Lib.hid hL9; have HX9 := Lib.hid hX9; have HY9 := Lib.hid hY9; have HZ9 := Lib.hid hZ9
          clear hL9 hX9 hY9 hZ9 HL8 HX8 HY8
          have x0 := HX9.out.cell 0
          have x1 := HX9.out.cell 1
          have x2 := HX9.out.cell 2
          have x3 := HX9.out.cell 3
          have x4 := HX9.out.cell 4
          have x5 := HX9.out.cell 5
          simp only [List.getElem?_cons_zero, List.getElem?_cons_succ] at x0 x1 x2 x3 x4 x5
          have y0 := HY9.out.cell 0
          have y1 := HY9.out.cell 1
          have y2 := HY9.out.cell 2
          have y3 := HY9.out.cell 3
          have y4 := HY9.out.cell 4
          have y5 := HY9.out.cell 5
          simp only [List.getElem?_cons_zero, List.getElem?_cons_succ] at y0 y1 y2 y3 y4 y5
          have z0 := HZ9.out.cell 0
          have z1 := HZ9.out.cell 1
          have z2 := HZ9.out.cell 2
          have z3 := HZ9.out.cell 3
          have z4 := HZ9.out.cell 4
          have z5 := HZ9.out.cell 5
          simp only [List.getElem?_cons_zero, List.getElem?_cons_succ] at z0 z1 z2 z3 z4 z5
          go_wp2_with fail
          go_ret
          exact ⟨rfl, HL9.out⟩
end Go.Proofs.Ytebgehmgjafblaa
