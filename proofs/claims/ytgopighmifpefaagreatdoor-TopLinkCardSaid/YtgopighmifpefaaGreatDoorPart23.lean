/- What is proved here: a part of the proof of TopLink (texts G4 G5 P12b). No condition. -/
import Derived.Deep.DeepCutAuto
import Derived.Test.YtgopighmifpefaaGreatDoorPart05
import Derived.Test.YtgopighmifpefaaGreatDoorPart21
import Derived.Test.YtgopighmifpefaaGreatDoorPart22
set_option linter.unusedVariables false
set_option linter.unusedSimpArgs false
namespace Go.Proofs.YtgopighmifpefaaGreatDoor
section
open Go.RowKit
end
section
open Go.RowKit
theorem Get_any (b : ByteArray) (w : World) : Calls Tryz.prog 68 #[.string b] w fun e w' => e = .returned (getV b) ∧ Below w.heap.size w w' := by
  by_cases h : b.size ≤ 7 ∨ 207 < b.size
  · exact Get_short b w h
  · exact Get_long b w (by omega) (by omega)
/-- What Get answers, as a frame and a number. -/
def getP (b : ByteArray) : Tc × Int :=
  if b.size ≤ 7 ∨ 207 < b.size then (Tc.zero, 6)
  else if sumOk b then (if (getTc b).good && decide ((getTc b).enc = b.data.toList) then (getTc b, 0) else (Tc.zero, 6))
  else (Tc.zero, 120)
theorem getV_eq (b : ByteArray) : getV b = .tuple #[(getP b).1.val, .int .i64 (getP b).2] := by
  unfold getV getP
  split
  · rfl
  · split
    · split <;> rfl
    · rfl
def front3 (r : Tc) (n e : Int) : Value := .tuple #[r.val, .int .i64 n, .int .i64 e]
def frontN (b : ByteArray) : Nat := nat2 b 2 % 1024 + 1
def frontV (b : ByteArray) : Value :=
  if b.size < 5 ∨ b.size < frontN b then front3 Tc.zero 0 6
  else if (getP (b.extract 0 (frontN b))).2 = 0 then front3 (getP (b.extract 0 (frontN b))).1 (frontN b) 0
  else front3 Tc.zero 0 (getP (b.extract 0 (frontN b))).2
theorem fields_1 (x y : Int) (w : World) : (Instr.field 151 (.agg #[.int .u16 x, .int .u16 y]) 1).run Tryz.prog w = .ok (.int .u16 y) w := by kernel_rfl
attribute [local go_sem] fields_1
set_option maxHeartbeats 4000000 in
set_option maxRecDepth 100000 in
theorem Front_any (b : ByteArray) (w : World) : Calls Tryz.prog 38 #[.string b] w fun e w' => e = .returned (frontV b) ∧ Below w.heap.size w w' := by
  have HL := Lib.hid ((Below.refl w.heap.size w).alloc (Nat.le_refl _) (Obj.cells Tc.zero.cells.toArray 37))
  have HZ := Lib.hid (Blk.new w Tc.zero.cells 37)
  by_cases h5 : b.size < 5
  · have hv : frontV b = front3 Tc.zero 0 6 := by unfold frontV; rw [if_pos (.inl h5)]
    rw [hv]
    have k5 : (b.size : Int) < 5 := by omega
    clear hv h5
    go_enter Tryz.func38, Tryz.ntmps38
    go_wp2_with fail
    refine ret_cell_tmp2 rfl w.heap.size 37 Tc.zero.cells rfl (Blk.new w _ _) Tryz.underlying37 rfl (by kernel_rfl) rfl ?_
    exact ⟨rfl, HL.out⟩
  · have k5 : ¬ (b.size : Int) < 5 := by omega
    have hS2 := nat2_lt b 2
    have hrs := fun w => read_any b w (by omega)
    obtain ⟨N, hN⟩ : ∃ N, N = frontN b := ⟨_, rfl⟩
    have hN2 : N = nat2 b 2 % 1024 + 1 := hN
    have hv : frontV b = if b.size < N then front3 Tc.zero 0 6 else if (getP (b.extract 0 N)).2 = 0 then front3 (getP (b.extract 0 N)).1 N 0 else front3 Tc.zero 0 (getP (b.extract 0 N)).2 := by
      unfold frontV
      rw [← hN]
      by_cases h : b.size < N
      · rw [if_pos (.inr h), if_pos h]
      · rw [if_neg (by omega), if_neg h]
    have hgt := fun w => Get_any (b.extract 0 N) w
    simp only [getV_eq] at hgt
    have hsz : ¬ b.size < N → (b.extract 0 N).size = N := by intro h; simp; omega
    have hsmall : (N < 8 ∨ 207 < N) → ¬ b.size < N → frontV b = front3 Tc.zero 0 6 := by
      intro h1 h2
      rw [hv, if_neg h2]
      have : getP (b.extract 0 N) = (Tc.zero, 6) := by unfold getP; rw [if_pos (by rw [hsz h2]; omega)]
      rw [this]; rfl
    obtain ⟨⟨⟨g0, g1, g2, g3, g4, g5⟩, ge⟩, hg⟩ : ∃ r, r = getP (b.extract 0 N) := ⟨_, rfl⟩
    rw [← hg] at hgt hv
    dsimp only [Tc.val] at hgt hv
    have a1 := and1023 _ hS2
    obtain ⟨S, hS⟩ : ∃ n, n = nat2 b 2 := ⟨_, rfl⟩
    rw [← hS] at hrs a1 hS2 hN2
    obtain ⟨H, hH⟩ : ∃ n, n = nat2 b 0 := ⟨_, rfl⟩
    rw [← hH] at hrs
    have i1 : IntKind.i64.wrap ((S : Int) % 1024) = (S : Int) % 1024 := IntWalk.i64_in _ (by omega)
    have i2 : IntKind.i64.wrap ((S : Int) % 1024 + 1) = (N : Int) := by rw [IntWalk.i64_in _ (by omega)]; omega
    have j4 : (S : Int).tmod 1024 = (S : Int) % 1024 := Int.tmod_eq_emod_of_nonneg (by omega)
    have k2 : (4 : Int) ≤ b.size := by omega
    have kN : (0 : Int) ≤ N := by omega
    have HRS := Lib.hid hrs; have HV := Lib.hid hv; have HGT := Lib.hid hgt; have HSM := Lib.hid hsmall
    have HN2 := Lib.hid hN2
    clear hrs hv hgt hS hN hg hsmall hsz h5 hN2 hH
    by_cases hb : b.size < N
    · have kb : (b.size : Int) < N := by omega
      rw [if_pos hb] at HV
      clear hb
      go_enter Tryz.func38, Tryz.ntmps38
      go_wp2_with fail
      refine (HRS.out _).mono ?_
      rintro e w5 ⟨rfl, hL5⟩
      have HL5 := Lib.hid (HL.out.trans (hL5.mono HL.out.size))
      have HZ5 := Lib.hid (HZ.out.below hL5 HZ.out.lt)
      clear hL5
      clear HL HZ
      have z0 := HZ5.out.cell 0
      have z1 := HZ5.out.cell 1
      have z2 := HZ5.out.cell 2
      have z3 := HZ5.out.cell 3
      have z4 := HZ5.out.cell 4
      have z5 := HZ5.out.cell 5
      simp only [Tc.cells, Tc.zero, List.getElem?_cons_zero, List.getElem?_cons_succ] at z0 z1 z2 z3 z4 z5
      have y0 := HZ5.out.free 0
      have y1 := HZ5.out.free 1
      have y2 := HZ5.out.free 2
      have y3 := HZ5.out.free 3
      have y4 := HZ5.out.free 4
      have y5 := HZ5.out.free 5
      go_wp2_with fail
      refine ret_cell_tmp2 rfl w.heap.size 37 Tc.zero.cells rfl ((((((HZ5.out.set 0 _).set 1 _).set 2 _).set 3 _).set 4 _).set 5 _) Tryz.underlying37 rfl (by kernel_rfl) rfl ?_
      exact ⟨by rw [HV.out]; rfl, ((((((HL5.out.setCell (Nat.le_refl _) _).setCell (Nat.le_refl _) _).setCell (Nat.le_refl _) _).setCell (Nat.le_refl _) _).setCell (Nat.le_refl _) _).setCell (Nat.le_refl _) _)⟩
    · have kb : ¬ (b.size : Int) < N := by omega
      have kb2 : (N : Int) ≤ b.size := by omega
      rw [if_neg hb] at HV
      clear hb
      go_enter Tryz.func38, Tryz.ntmps38
      go_wp2_with fail
      refine (HRS.out _).mono ?_
      rintro e w5 ⟨rfl, hL5⟩
      have HL5 := Lib.hid (HL.out.trans (hL5.mono HL.out.size))
      have HZ5 := Lib.hid (HZ.out.below hL5 HZ.out.lt)
      clear hL5
      clear HL HZ
      go_wp2_with fail
      refine (HGT.out _).mono ?_
      rintro e w6 ⟨rfl, hL6⟩
      have HZ6 := Lib.hid (HZ5.out.below hL6 HZ5.out.lt)
      have HL6 := Lib.hid (HL5.out.trans (hL6.mono HL5.out.size)); clear hL6 HL5 HZ5
      have hne : w.heap.size ≠ w6.heap.size := Nat.ne_of_lt HZ6.out.lt
      have HZ7 := Lib.hid (HZ6.out.alloc (Obj.cells #[.int .i64 g0, .int .i64 g1, .bool g2, .bool g3, .int .i64 g4, .string g5] 37))
      have HL7 := Lib.hid (HL6.out.alloc HL6.out.size (Obj.cells #[.int .i64 g0, .int .i64 g1, .bool g2, .bool g3, .int .i64 g4, .string g5] 37))
      have HX7 := Lib.hid (Blk.new w6 [.int .i64 g0, .int .i64 g1, .bool g2, .bool g3, .int .i64 g4, .string g5] 37)
      go_upto_region 7 with fail
      refine gen_world (fun W => Below w.heap.size w W ∧ Blk W w.heap.size Tc.zero.cells 37 ∧ Blk W w6.heap.size [.int .i64 g0, .int .i64 g1, .bool g2, .bool g3, .int .i64 g4, .string g5] 37) ⟨HL7.out, HZ7.out, HX7.out⟩ ?_
      rintro w8 ⟨hL8, hZ8, hX8⟩
      have HL8 := Lib.hid hL8; have HZ8 := Lib.hid hZ8; have HX8 := Lib.hid hX8
      clear hL8 hZ8 hX8 HL7 HZ7 HX7 HL6 HZ6
      have z0 := HZ8.out.cell 0
      have z1 := HZ8.out.cell 1
      have z2 := HZ8.out.cell 2
      have z3 := HZ8.out.cell 3
      have z4 := HZ8.out.cell 4
      have z5 := HZ8.out.cell 5
      simp only [Tc.cells, Tc.zero, List.getElem?_cons_zero, List.getElem?_cons_succ] at z0 z1 z2 z3 z4 z5
      have y0 := HZ8.out.free 0
      have y1 := HZ8.out.free 1
      have y2 := HZ8.out.free 2
      have y3 := HZ8.out.free 3
      have y4 := HZ8.out.free 4
      have y5 := HZ8.out.free 5
      have x0 := HX8.out.cell 0
      have x1 := HX8.out.cell 1
      have x2 := HX8.out.cell 2
      have x3 := HX8.out.cell 3
      have x4 := HX8.out.cell 4
      have x5 := HX8.out.cell 5
      simp only [List.getElem?_cons_zero, List.getElem?_cons_succ] at x0 x1 x2 x3 x4 x5
      by_cases he : ge = 0
      · rw [if_pos he] at HV
        have k0 : (ge != 0) = false := by simp [he]
        clear he
        go_wp2_with fail
        refine ret_cell_tmp2 rfl w.heap.size 37 [.int .i64 g0, .int .i64 g1, .bool g2, .bool g3, .int .i64 g4, .string g5] rfl ((((((HZ8.out.set 0 _).set 1 _).set 2 _).set 3 _).set 4 _).set 5 _) Tryz.underlying37 rfl (by kernel_rfl) rfl ?_
        exact ⟨by rw [HV.out]; rfl, ((((((HL8.out.setCell (Nat.le_refl _) _).setCell (Nat.le_refl _) _).setCell (Nat.le_refl _) _).setCell (Nat.le_refl _) _).setCell (Nat.le_refl _) _).setCell (Nat.le_refl _) _)⟩
      · rw [if_neg he] at HV
        have k0 : (ge != 0) = true := by simpa using he
        clear he
        go_wp2_with fail
        refine ret_cell_tmp2 rfl w.heap.size 37 Tc.zero.cells rfl ((((((HZ8.out.set 0 _).set 1 _).set 2 _).set 3 _).set 4 _).set 5 _) Tryz.underlying37 rfl (by kernel_rfl) rfl ?_
        exact ⟨by rw [HV.out]; rfl, ((((((HL8.out.setCell (Nat.le_refl _) _).setCell (Nat.le_refl _) _).setCell (Nat.le_refl _) _).setCell (Nat.le_refl _) _).setCell (Nat.le_refl _) _).setCell (Nat.le_refl _) _)⟩
end
section
open Go.RowKit
theorem enc_split (x : Tc) : x.enc = be2 x.headN ++ be2 x.sizeN ++ [UInt8.ofNat x.seq.toNat] ++ x.data.data.toList ++ be2 (sum16 x.body).toNat := by simp [Tc.enc, Tc.body]
theorem headN_parts (c : Nat) (b k : Bool) (hc : c < 256) : (c + (if b = true then 8192 else 0) + (if k = true then 4096 else 0)) % 1024 = c ∧
    decide ((c + (if b = true then 8192 else 0) + (if k = true then 4096 else 0)) / 8192 % 2 = 1) = b ∧ decide ((c + (if b = true then 8192 else 0) + (if k = true then 4096 else 0)) / 4096 % 2 = 1) = k := by
  cases b <;> cases k <;> simp <;> omega
theorem getTc_enc (x : Tc) (hg : x.good = true) : getTc ⟨x.enc.toArray⟩ = x := by
  obtain ⟨e1, e2, e3, _, _⟩ := enc_nat2 x hg
  obtain ⟨c, ch, s, h1, h2, h3, h4, h5, h6, h7⟩ := x.good_nat hg
  have hsz : (⟨x.enc.toArray⟩ : ByteArray).size = x.data.size + 7 := by show x.enc.toArray.size = _; simp [e3]
  unfold getTc
  rw [e1, e2, hsz]
  have hd : (⟨x.enc.toArray⟩ : ByteArray).extract 5 (x.data.size + 7 - 2) = x.data := by
    apply ByteArray.ext
    apply Array.toList_inj.1
    rw [show ((⟨x.enc.toArray⟩ : ByteArray).extract 5 (x.data.size + 7 - 2)).data.toList = (x.enc.drop 5).take (x.data.size + 7 - 2 - 5) by
      simp [ByteArray.data_extract, Array.toList_extract, List.extract_eq_take_drop]]
    rw [enc_split]
    simp only [be2, List.cons_append, List.nil_append, List.append_assoc, List.drop_succ_cons, List.drop_zero]
    rw [show x.data.size + 7 - 2 - 5 = x.data.data.toList.length by rw [← Lib.size_eq]; omega]
    exact List.take_left' rfl
  have hs : (x.enc.getD 4 0).toNat = x.seq.toNat := by
    rw [enc_split]
    simp only [be2, List.cons_append, List.nil_append, List.append_assoc, List.getD_cons_succ, List.getD_cons_zero, UInt8.toNat_ofNat']
    rw [h7]; simp only [Int.toNat_natCast]; omega
  rw [hd, hs]
  rw [h7]
  obtain ⟨p1, p2, p3⟩ := headN_parts c x.byp x.ctl h1
  have hh : (Tc.mk c ch x.byp x.ctl s x.data).headN = c + (if x.byp = true then 8192 else 0) + (if x.ctl = true then 4096 else 0) := by unfold Tc.headN; simp only [Int.toNat_natCast]
  have hz : (Tc.mk c ch x.byp x.ctl s x.data).sizeN / 1024 = ch := by unfold Tc.sizeN; simp only [Int.toNat_natCast]; omega
  rw [hh, hz, p1, p2, p3]
  simp only [Int.toNat_natCast]
theorem sumOk_enc (x : Tc) (hg : x.good = true) : sumOk ⟨x.enc.toArray⟩ = true := by
  obtain ⟨_, _, e3, _, _⟩ := enc_nat2 x hg
  have hsz : (⟨x.enc.toArray⟩ : ByteArray).size = x.data.size + 7 := by show x.enc.toArray.size = _; simp [e3]
  have hbl : x.body.length = x.data.size + 5 := by
    have : x.enc.length = x.body.length + 2 := by simp [Tc.enc, be2]
    omega
  unfold sumOk
  apply decide_eq_true
  rw [hsz]
  have h1 := nat2_be2 (sum16 x.body).toNat x.body [] (sum16 x.body).isLt
  rw [List.append_nil] at h1
  rw [show x.data.size + 7 - 2 = x.body.length by omega]
  rw [show x.enc = x.body ++ be2 (sum16 x.body).toNat from rfl, h1]
  congr 2
  rw [show ((⟨(x.body ++ be2 (sum16 x.body).toNat).toArray⟩ : ByteArray).extract 0 x.body.length).data.toList = (x.body ++ be2 (sum16 x.body).toNat).take x.body.length by
    simp [ByteArray.data_extract, Array.toList_extract, List.extract_eq_take_drop]]
  rw [List.take_left' rfl]
theorem getP_enc (x : Tc) (hg : x.good = true) : getP ⟨x.enc.toArray⟩ = (x, 0) := by
  obtain ⟨_, _, e3, _, _⟩ := enc_nat2 x hg
  have hsz : (⟨x.enc.toArray⟩ : ByteArray).size = x.data.size + 7 := by show x.enc.toArray.size = _; simp [e3]
  obtain ⟨c, ch, s, h1, h2, h3, h4, h5, h6, h7⟩ := x.good_nat hg
  unfold getP
  rw [if_neg (by omega), if_pos (sumOk_enc x hg), getTc_enc x hg, hg]
  rw [if_pos (by simp)]
theorem getP_ok (b : ByteArray) (x : Tc) (h : getP b = (x, 0)) : x.good = true ∧ x.enc = b.data.toList := by
  unfold getP at h
  split at h
  · simp at h
  · split at h
    · split at h
      · rename_i h1
        simp only [Prod.mk.injEq, and_true] at h
        subst h
        simpa using h1
      · simp at h
    · simp at h
end
end Go.Proofs.YtgopighmifpefaaGreatDoor
