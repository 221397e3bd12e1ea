/- What is proved here: what Get and Front and their references answer. -/
import Derived.Test.YtebgehmgjafblaaG3
import Derived.Test.YtebgehmgjafblaaG4
set_option linter.unusedVariables false
set_option linter.unusedSimpArgs false
namespace Go.Proofs.Ytebgehmgjafblaa
open Go.RowKit
theorem Get_any (b : ByteArray) (w : World) : Calls Try.prog 47 #[.string b] w fun e w' => e = .returned (getV b) ∧ Below w.heap.size w w' := by
  by_cases h : b.size ≤ 7 ∨ 207 < b.size
  · exact Get_short b w h
  · exact Get_long b w (by omega) (by omega)
theorem rGet_any (b : ByteArray) (w : World) : Calls Try.prog 48 #[.string b] w fun e w' => e = .returned (getV b) ∧ Below w.heap.size w w' := by
  by_cases h : b.size ≤ 7 ∨ 207 < b.size
  · exact rGet_short b w h
  · exact rGet_long b w (by omega) (by omega)
/-- What Get answers, as a frame and a number. -/
def getP (b : ByteArray) : Tc × Int :=
  if b.size ≤ 7 ∨ 207 < b.size then (Tc.zero, 6)
  else if sumOk b then (if (getTc b).good && decide ((getTc b).enc = b.data.toList) then (getTc b, 0) else (Tc.zero, 6))
  else (Tc.zero, 120)
theorem getV_eq (b : ByteArray) : getV b = .tuple #[(getP b).1.val, .int .i64 (getP b).2] := by
  unfold getV getP
  split
  · rfl
  · split
    · split <;> rfl
    · rfl
def front3 (r : Tc) (n e : Int) : Value := .tuple #[r.val, .int .i64 n, .int .i64 e]
def frontN (b : ByteArray) : Nat := nat2 b 2 % 1024 + 1
def frontV (b : ByteArray) : Value :=
  if b.size < 5 ∨ b.size < frontN b then front3 Tc.zero 0 6
  else if (getP (b.extract 0 (frontN b))).2 = 0 then front3 (getP (b.extract 0 (frontN b))).1 (frontN b) 0
  else front3 Tc.zero 0 (getP (b.extract 0 (frontN b))).2
theorem fields_1 (x y : Int) (w : World) : (Instr.field 120 (.agg #[.int .u16 x, .int .u16 y]) 1).run Try.prog w = .ok (.int .u16 y) w := by kernel_rfl
attribute [local go_sem] fields_1
set_option maxHeartbeats 4000000 in
set_option maxRecDepth 100000 in
theorem Front_any (b : ByteArray) (w : World) : Calls Try.prog 49 #[.string b] w fun e w' => e = .returned (frontV b) ∧ Below w.heap.size w w' := by
  have HL := Lib.hid ((Below.refl w.heap.size w).alloc (Nat.le_refl _) (Obj.cells Tc.zero.cells.toArray 30))
  have HZ := Lib.hid (Blk.new w Tc.zero.cells 30)
  by_cases h5 : b.size < 5
  · have hv : frontV b = front3 Tc.zero 0 6 := by unfold frontV; rw [if_pos (.inl h5)]
    rw [hv]
    have k5 : (b.size : Int) < 5 := by omega
    clear hv h5
    go_enter Try.func49, Try.ntmps49
    go_wp2_with fail
    refine ret_cell_tmp2 rfl w.heap.size 30 Tc.zero.cells rfl (Blk.new w _ _) Try.underlying30 rfl (by kernel_rfl) rfl ?_
    exact ⟨rfl, HL.out⟩
  · have k5 : ¬ (b.size : Int) < 5 := by omega
    have hS2 := nat2_lt b 2
    have hrs := fun w => read_any b w (by omega)
    obtain ⟨N, hN⟩ : ∃ N, N = frontN b := ⟨_, rfl⟩
    have hN2 : N = nat2 b 2 % 1024 + 1 := hN
    have hv : frontV b = if b.size < N then front3 Tc.zero 0 6 else if (getP (b.extract 0 N)).2 = 0 then front3 (getP (b.extract 0 N)).1 N 0 else front3 Tc.zero 0 (getP (b.extract 0 N)).2 := by
      unfold frontV
      rw [← hN]
      by_cases h : b.size < N
      · rw [if_pos (.inr h), if_pos h]
      · rw [if_neg (by omega), if_neg h]
    have hgt := fun w => Get_any (b.extract 0 N) w
    simp only [getV_eq] at hgt
    have hsz : ¬ b.size < N → (b.extract 0 N).size = N := by intro h; simp; omega
    have hsmall : (N < 8 ∨ 207 < N) → ¬ b.size < N → frontV b = front3 Tc.zero 0 6 := by
      intro h1 h2
      rw [hv, if_neg h2]
      have : getP (b.extract 0 N) = (Tc.zero, 6) := by unfold getP; rw [if_pos (by rw [hsz h2]; omega)]
      rw [this]; rfl
    obtain ⟨⟨⟨g0, g1, g2, g3, g4, g5⟩, ge⟩, hg⟩ : ∃ r, r = getP (b.extract 0 N) := ⟨_, rfl⟩
    rw [← hg] at hgt hv
    dsimp only [Tc.val] at hgt hv
    have a1 := and1023 _ hS2
    obtain ⟨S, hS⟩ : ∃ n, n = nat2 b 2 := ⟨_, rfl⟩
    rw [← hS] at hrs a1 hS2 hN2
    obtain ⟨H, hH⟩ : ∃ n, n = nat2 b 0 := ⟨_, rfl⟩
    rw [← hH] at hrs
    have i1 : IntKind.i64.wrap ((S : Int) % 1024) = (S : Int) % 1024 := IntWalk.i64_in _ (by omega)
    have i2 : IntKind.i64.wrap ((S : Int) % 1024 + 1) = (N : Int) := by rw [IntWalk.i64_in _ (by omega)]; omega
    have j4 : (S : Int).tmod 1024 = (S : Int) % 1024 := Int.tmod_eq_emod_of_nonneg (by omega)
    have k2 : (4 : Int) ≤ b.size := by omega
    have kN : (0 : Int) ≤ N := by omega
    have HRS := Lib.hid hrs; have HV := Lib.hid hv; have HGT := Lib.hid hgt; have HSM := Lib.hid hsmall
    have HN2 := Lib.hid hN2
    clear hrs hv hgt hS hN hg hsmall hsz h5 hN2 hH
    by_cases hb : b.size < N
    · have kb : (b.size : Int) < N := by omega
      rw [if_pos hb] at HV
      clear hb
      go_enter Try.func49, Try.ntmps49
      go_wp2_with fail
      refine (HRS.out _).mono ?_
      rintro e w5 ⟨rfl, hL5⟩
      have HL5 := Lib.hid (HL.out.trans (hL5.mono HL.out.size))
      have HZ5 := Lib.hid (HZ.out.below hL5 HZ.out.lt)
      clear hL5
      clear HL HZ
      have z0 := HZ5.out.cell 0
      have z1 := HZ5.out.cell 1
      have z2 := HZ5.out.cell 2
      have z3 := HZ5.out.cell 3
      have z4 := HZ5.out.cell 4
      have z5 := HZ5.out.cell 5
      simp only [Tc.cells, Tc.zero, List.getElem?_cons_zero, List.getElem?_cons_succ] at z0 z1 z2 z3 z4 z5
      have y0 := HZ5.out.free 0
      have y1 := HZ5.out.free 1
      have y2 := HZ5.out.free 2
      have y3 := HZ5.out.free 3
      have y4 := HZ5.out.free 4
      have y5 := HZ5.out.free 5
      go_wp2_with fail
      refine ret_cell_tmp2 rfl w.heap.size 30 Tc.zero.cells rfl ((((((HZ5.out.set 0 _).set 1 _).set 2 _).set 3 _).set 4 _).set 5 _) Try.underlying30 rfl (by kernel_rfl) rfl ?_
      exact ⟨by rw [HV.out]; rfl, ((((((HL5.out.setCell (Nat.le_refl _) _).setCell (Nat.le_refl _) _).setCell (Nat.le_refl _) _).setCell (Nat.le_refl _) _).setCell (Nat.le_refl _) _).setCell (Nat.le_refl _) _)⟩
    · have kb : ¬ (b.size : Int) < N := by omega
      have kb2 : (N : Int) ≤ b.size := by omega
      rw [if_neg hb] at HV
      clear hb
      go_enter Try.func49, Try.ntmps49
      go_wp2_with fail
      refine (HRS.out _).mono ?_
      rintro e w5 ⟨rfl, hL5⟩
      have HL5 := Lib.hid (HL.out.trans (hL5.mono HL.out.size))
      have HZ5 := Lib.hid (HZ.out.below hL5 HZ.out.lt)
      clear hL5
      clear HL HZ
      go_wp2_with fail
      refine (HGT.out _).mono ?_
      rintro e w6 ⟨rfl, hL6⟩
      have HZ6 := Lib.hid (HZ5.out.below hL6 HZ5.out.lt)
      have HL6 := Lib.hid (HL5.out.trans (hL6.mono HL5.out.size)); clear hL6 HL5 HZ5
      have hne : w.heap.size ≠ w6.heap.size := Nat.ne_of_lt HZ6.out.lt
      have HZ7 := Lib.hid (HZ6.out.alloc (Obj.cells #[.int .i64 g0, .int .i64 g1, .bool g2, .bool g3, .int .i64 g4, .string g5] 30))
      have HL7 := Lib.hid (HL6.out.alloc HL6.out.size (Obj.cells #[.int .i64 g0, .int .i64 g1, .bool g2, .bool g3, .int .i64 g4, .string g5] 30))
      have HX7 := Lib.hid (Blk.new w6 [.int .i64 g0, .int .i64 g1, .bool g2, .bool g3, .int .i64 g4, .string g5] 30)
      go_upto_region 7 with fail
      refine gen_world (fun W => Below w.heap.size w W ∧ Blk W w.heap.size Tc.zero.cells 30 ∧ Blk W w6.heap.size [.int .i64 g0, .int .i64 g1, .bool g2, .bool g3, .int .i64 g4, .string g5] 30) ⟨HL7.out, HZ7.out, HX7.out⟩ ?_
      rintro w8 ⟨hL8, hZ8, hX8⟩
      have HL8 := Lib.hid hL8; have HZ8 := Lib.hid hZ8; have HX8 := Lib.hid hX8
      clear hL8 hZ8 hX8 HL7 HZ7 HX7 HL6 HZ6
      have z0 := HZ8.out.cell 0
      have z1 := HZ8.out.cell 1
      have z2 := HZ8.out.cell 2
      have z3 := HZ8.out.cell 3
      have z4 := HZ8.out.cell 4
      have z5 := HZ8.out.cell 5
      simp only [Tc.cells, Tc.zero, List.getElem?_cons_zero, List.getElem?_cons_succ] at z0 z1 z2 z3 z4 z5
      have y0 := HZ8.out.free 0
      have y1 := HZ8.out.free 1
      have y2 := HZ8.out.free 2
      have y3 := HZ8.out.free 3
      have y4 := HZ8.out.free 4
      have y5 := HZ8.out.free 5
      have x0 := HX8.out.cell 0
      have x1 := HX8.out.cell 1
      have x2 := HX8.out.cell 2
      have x3 := HX8.out.cell 3
      have x4 := HX8.out.cell 4
      have x5 := HX8.out.cell 5
      simp only [List.getElem?_cons_zero, List.getElem?_cons_succ] at x0 x1 x2 x3 x4 x5
      by_cases he : ge = 0
      · rw [if_pos he] at HV
        have k0 : (ge != 0) = false := by simp [he]
        clear he
        go_wp2_with fail
        refine ret_cell_tmp2 rfl w.heap.size 30 [.int .i64 g0, .int .i64 g1, .bool g2, .bool g3, .int .i64 g4, .string g5] rfl ((((((HZ8.out.set 0 _).set 1 _).set 2 _).set 3 _).set 4 _).set 5 _) Try.underlying30 rfl (by kernel_rfl) rfl ?_
        exact ⟨by rw [HV.out]; rfl, ((((((HL8.out.setCell (Nat.le_refl _) _).setCell (Nat.le_refl _) _).setCell (Nat.le_refl _) _).setCell (Nat.le_refl _) _).setCell (Nat.le_refl _) _).setCell (Nat.le_refl _) _)⟩
      · rw [if_neg he] at HV
        have k0 : (ge != 0) = true := by simpa using he
        clear he
        go_wp2_with fail
        refine ret_cell_tmp2 rfl w.heap.size 30 Tc.zero.cells rfl ((((((HZ8.out.set 0 _).set 1 _).set 2 _).set 3 _).set 4 _).set 5 _) Try.underlying30 rfl (by kernel_rfl) rfl ?_
        exact ⟨by rw [HV.out]; rfl, ((((((HL8.out.setCell (Nat.le_refl _) _).setCell (Nat.le_refl _) _).setCell (Nat.le_refl _) _).setCell (Nat.le_refl _) _).setCell (Nat.le_refl _) _).setCell (Nat.le_refl _) _)⟩
set_option maxHeartbeats 4000000 in
set_option maxRecDepth 100000 in
theorem rFront_any (b : ByteArray) (w : World) : Calls Try.prog 50 #[.string b] w fun e w' => e = .returned (frontV b) ∧ Below w.heap.size w w' := by
  have HL := Lib.hid ((Below.refl w.heap.size w).alloc (Nat.le_refl _) (Obj.cells Tc.zero.cells.toArray 30))
  have HZ := Lib.hid (Blk.new w Tc.zero.cells 30)
  by_cases h5 : b.size < 5
  · have hv : frontV b = front3 Tc.zero 0 6 := by unfold frontV; rw [if_pos (.inl h5)]
    rw [hv]
    have k5 : (b.size : Int) < 5 := by omega
    clear hv h5
    go_enter Try.func50, Try.ntmps50
    go_wp2_with fail
    refine ret_cell_tmp2 rfl w.heap.size 30 Tc.zero.cells rfl (Blk.new w _ _) Try.underlying30 rfl (by kernel_rfl) rfl ?_
    exact ⟨rfl, HL.out⟩
  · have k5 : ¬ (b.size : Int) < 5 := by omega
    have hS2 := nat2_lt b 2
    have hrs := fun w => rnumber_any (b.extract 2 4) w (by simp; omega)
    rw [nat2_ext b 2 4 (by omega) (by omega)] at hrs
    obtain ⟨N, hN⟩ : ∃ N, N = frontN b := ⟨_, rfl⟩
    have hN2 : N = nat2 b 2 % 1024 + 1 := hN
    have hv : frontV b = if b.size < N then front3 Tc.zero 0 6 else if (getP (b.extract 0 N)).2 = 0 then front3 (getP (b.extract 0 N)).1 N 0 else front3 Tc.zero 0 (getP (b.extract 0 N)).2 := by
      unfold frontV
      rw [← hN]
      by_cases h : b.size < N
      · rw [if_pos (.inr h), if_pos h]
      · rw [if_neg (by omega), if_neg h]
    have hgt := fun w => rGet_any (b.extract 0 N) w
    simp only [getV_eq] at hgt
    have hsz : ¬ b.size < N → (b.extract 0 N).size = N := by intro h; simp; omega
    have hsmall : (N < 8 ∨ 207 < N) → ¬ b.size < N → frontV b = front3 Tc.zero 0 6 := by
      intro h1 h2
      rw [hv, if_neg h2]
      have : getP (b.extract 0 N) = (Tc.zero, 6) := by unfold getP; rw [if_pos (by rw [hsz h2]; omega)]
      rw [this]; rfl
    obtain ⟨⟨⟨g0, g1, g2, g3, g4, g5⟩, ge⟩, hg⟩ : ∃ r, r = getP (b.extract 0 N) := ⟨_, rfl⟩
    rw [← hg] at hgt hv
    dsimp only [Tc.val] at hgt hv
    have a1 := and1023 _ hS2
    obtain ⟨S, hS⟩ : ∃ n, n = nat2 b 2 := ⟨_, rfl⟩
    rw [← hS] at hrs a1 hS2 hN2
    have i1 : IntKind.i64.wrap ((S : Int) % 1024) = (S : Int) % 1024 := IntWalk.i64_in _ (by omega)
    have i2 : IntKind.i64.wrap ((S : Int) % 1024 + 1) = (N : Int) := by rw [IntWalk.i64_in _ (by omega)]; omega
    have j4 : (S : Int).tmod 1024 = (S : Int) % 1024 := Int.tmod_eq_emod_of_nonneg (by omega)
    have k2 : (4 : Int) ≤ b.size := by omega
    have kN : (0 : Int) ≤ N := by omega
    have HRS := Lib.hid hrs; have HV := Lib.hid hv; have HGT := Lib.hid hgt; have HSM := Lib.hid hsmall
    have HN2 := Lib.hid hN2
    clear hrs hv hgt hS hN hg hsmall hsz h5 hN2
    by_cases hs1 : N < 8
    · have kk : (N : Int) < 8 := by omega
      have hve : frontV b = front3 Tc.zero 0 6 := by
        by_cases h : b.size < N
        · rw [HV.out, if_pos h]
        · exact HSM.out (.inl hs1) h
      have HVE := Lib.hid hve
      clear hve hs1
      go_enter Try.func50, Try.ntmps50
      go_wp2_with fail
      refine (HRS.out _).mono ?_
      rintro e w5 ⟨rfl, hw5⟩
      have HL5 := Lib.hid (show Below w.heap.size w w5 from hw5 ▸ HL.out.drew)
      have HZ5 := Lib.hid (show Blk w5 w.heap.size Tc.zero.cells 30 from hw5 ▸ HZ.out.drew)
      clear hw5
      clear HL HZ
      have z0 := HZ5.out.cell 0
      have z1 := HZ5.out.cell 1
      have z2 := HZ5.out.cell 2
      have z3 := HZ5.out.cell 3
      have z4 := HZ5.out.cell 4
      have z5 := HZ5.out.cell 5
      simp only [Tc.cells, Tc.zero, List.getElem?_cons_zero, List.getElem?_cons_succ] at z0 z1 z2 z3 z4 z5
      have y0 := HZ5.out.free 0
      have y1 := HZ5.out.free 1
      have y2 := HZ5.out.free 2
      have y3 := HZ5.out.free 3
      have y4 := HZ5.out.free 4
      have y5 := HZ5.out.free 5
      go_wp2_with fail
      refine ret_cell_tmp2 rfl w.heap.size 30 Tc.zero.cells rfl ((((((HZ5.out.set 0 _).set 1 _).set 2 _).set 3 _).set 4 _).set 5 _) Try.underlying30 rfl (by kernel_rfl) rfl ?_
      exact ⟨by rw [HVE.out]; rfl, ((((((HL5.out.setCell (Nat.le_refl _) _).setCell (Nat.le_refl _) _).setCell (Nat.le_refl _) _).setCell (Nat.le_refl _) _).setCell (Nat.le_refl _) _).setCell (Nat.le_refl _) _)⟩
    · by_cases hs2 : 207 < N
      · have kk : ¬ (N : Int) < 8 := by omega
        have kk2 : (207 : Int) < N := by omega
        have hve : frontV b = front3 Tc.zero 0 6 := by
          by_cases h : b.size < N
          · rw [HV.out, if_pos h]
          · exact HSM.out (.inr hs2) h
        have HVE := Lib.hid hve
        clear hve hs1 hs2
        go_enter Try.func50, Try.ntmps50
        go_wp2_with fail
        refine (HRS.out _).mono ?_
        rintro e w5 ⟨rfl, hw5⟩
        have HL5 := Lib.hid (show Below w.heap.size w w5 from hw5 ▸ HL.out.drew)
        have HZ5 := Lib.hid (show Blk w5 w.heap.size Tc.zero.cells 30 from hw5 ▸ HZ.out.drew)
        clear hw5
        clear HL HZ
        have z0 := HZ5.out.cell 0
        have z1 := HZ5.out.cell 1
        have z2 := HZ5.out.cell 2
        have z3 := HZ5.out.cell 3
        have z4 := HZ5.out.cell 4
        have z5 := HZ5.out.cell 5
        simp only [Tc.cells, Tc.zero, List.getElem?_cons_zero, List.getElem?_cons_succ] at z0 z1 z2 z3 z4 z5
        have y0 := HZ5.out.free 0
        have y1 := HZ5.out.free 1
        have y2 := HZ5.out.free 2
        have y3 := HZ5.out.free 3
        have y4 := HZ5.out.free 4
        have y5 := HZ5.out.free 5
        go_wp2_with fail
        refine ret_cell_tmp2 rfl w.heap.size 30 Tc.zero.cells rfl ((((((HZ5.out.set 0 _).set 1 _).set 2 _).set 3 _).set 4 _).set 5 _) Try.underlying30 rfl (by kernel_rfl) rfl ?_
        exact ⟨by rw [HVE.out]; rfl, ((((((HL5.out.setCell (Nat.le_refl _) _).setCell (Nat.le_refl _) _).setCell (Nat.le_refl _) _).setCell (Nat.le_refl _) _).setCell (Nat.le_refl _) _).setCell (Nat.le_refl _) _)⟩
      · have kk : ¬ (N : Int) < 8 := by omega
        have kk2 : ¬ (207 : Int) < N := by omega
        clear hs1 hs2
        by_cases hb : b.size < N
        · have kb : (b.size : Int) < N := by omega
          rw [if_pos hb] at HV
          clear hb
          go_enter Try.func50, Try.ntmps50
          go_wp2_with fail
          refine (HRS.out _).mono ?_
          rintro e w5 ⟨rfl, hw5⟩
          have HL5 := Lib.hid (show Below w.heap.size w w5 from hw5 ▸ HL.out.drew)
          have HZ5 := Lib.hid (show Blk w5 w.heap.size Tc.zero.cells 30 from hw5 ▸ HZ.out.drew)
          clear hw5
          clear HL HZ
          have z0 := HZ5.out.cell 0
          have z1 := HZ5.out.cell 1
          have z2 := HZ5.out.cell 2
          have z3 := HZ5.out.cell 3
          have z4 := HZ5.out.cell 4
          have z5 := HZ5.out.cell 5
          simp only [Tc.cells, Tc.zero, List.getElem?_cons_zero, List.getElem?_cons_succ] at z0 z1 z2 z3 z4 z5
          have y0 := HZ5.out.free 0
          have y1 := HZ5.out.free 1
          have y2 := HZ5.out.free 2
          have y3 := HZ5.out.free 3
          have y4 := HZ5.out.free 4
          have y5 := HZ5.out.free 5
          go_wp2_with fail
          refine ret_cell_tmp2 rfl w.heap.size 30 Tc.zero.cells rfl ((((((HZ5.out.set 0 _).set 1 _).set 2 _).set 3 _).set 4 _).set 5 _) Try.underlying30 rfl (by kernel_rfl) rfl ?_
          exact ⟨by rw [HV.out]; rfl, ((((((HL5.out.setCell (Nat.le_refl _) _).setCell (Nat.le_refl _) _).setCell (Nat.le_refl _) _).setCell (Nat.le_refl _) _).setCell (Nat.le_refl _) _).setCell (Nat.le_refl _) _)⟩
        · have kb : ¬ (b.size : Int) < N := by omega
          have kb2 : (N : Int) ≤ b.size := by omega
          rw [if_neg hb] at HV
          clear hb
          go_enter Try.func50, Try.ntmps50
          go_wp2_with fail
          refine (HRS.out _).mono ?_
          rintro e w5 ⟨rfl, hw5⟩
          have HL5 := Lib.hid (show Below w.heap.size w w5 from hw5 ▸ HL.out.drew)
          have HZ5 := Lib.hid (show Blk w5 w.heap.size Tc.zero.cells 30 from hw5 ▸ HZ.out.drew)
          clear hw5
          clear HL HZ
          go_wp2_with fail
          refine (HGT.out _).mono ?_
          rintro e w6 ⟨rfl, hL6⟩
          have HZ6 := Lib.hid (HZ5.out.below hL6 HZ5.out.lt)
          have HL6 := Lib.hid (HL5.out.trans (hL6.mono HL5.out.size)); clear hL6 HL5 HZ5
          have hne : w.heap.size ≠ w6.heap.size := Nat.ne_of_lt HZ6.out.lt
          have HZ7 := Lib.hid (HZ6.out.alloc (Obj.cells #[.int .i64 g0, .int .i64 g1, .bool g2, .bool g3, .int .i64 g4, .string g5] 30))
          have HL7 := Lib.hid (HL6.out.alloc HL6.out.size (Obj.cells #[.int .i64 g0, .int .i64 g1, .bool g2, .bool g3, .int .i64 g4, .string g5] 30))
          have HX7 := Lib.hid (Blk.new w6 [.int .i64 g0, .int .i64 g1, .bool g2, .bool g3, .int .i64 g4, .string g5] 30)
          go_upto_region 7 with fail
          refine gen_world (fun W => Below w.heap.size w W ∧ Blk W w.heap.size Tc.zero.cells 30 ∧ Blk W w6.heap.size [.int .i64 g0, .int .i64 g1, .bool g2, .bool g3, .int .i64 g4, .string g5] 30) ⟨HL7.out, HZ7.out, HX7.out⟩ ?_
          rintro w8 ⟨hL8, hZ8, hX8⟩
          have HL8 := Lib.hid hL8; have HZ8 := Lib.hid hZ8; have HX8 := Lib.hid hX8
          clear hL8 hZ8 hX8 HL7 HZ7 HX7 HL6 HZ6
          have z0 := HZ8.out.cell 0
          have z1 := HZ8.out.cell 1
          have z2 := HZ8.out.cell 2
          have z3 := HZ8.out.cell 3
          have z4 := HZ8.out.cell 4
          have z5 := HZ8.out.cell 5
          simp only [Tc.cells, Tc.zero, List.getElem?_cons_zero, List.getElem?_cons_succ] at z0 z1 z2 z3 z4 z5
          have y0 := HZ8.out.free 0
          have y1 := HZ8.out.free 1
          have y2 := HZ8.out.free 2
          have y3 := HZ8.out.free 3
          have y4 := HZ8.out.free 4
          have y5 := HZ8.out.free 5
          have x0 := HX8.out.cell 0
          have x1 := HX8.out.cell 1
          have x2 := HX8.out.cell 2
          have x3 := HX8.out.cell 3
          have x4 := HX8.out.cell 4
          have x5 := HX8.out.cell 5
          simp only [List.getElem?_cons_zero, List.getElem?_cons_succ] at x0 x1 x2 x3 x4 x5
          by_cases he : ge = 0
          · rw [if_pos he] at HV
            have k0 : (ge != 0) = false := by simp [he]
            clear he
            go_wp2_with fail
            refine ret_cell_tmp2 rfl w.heap.size 30 [.int .i64 g0, .int .i64 g1, .bool g2, .bool g3, .int .i64 g4, .string g5] rfl ((((((HZ8.out.set 0 _).set 1 _).set 2 _).set 3 _).set 4 _).set 5 _) Try.underlying30 rfl (by kernel_rfl) rfl ?_
            exact ⟨by rw [HV.out]; rfl, ((((((HL8.out.setCell (Nat.le_refl _) _).setCell (Nat.le_refl _) _).setCell (Nat.le_refl _) _).setCell (Nat.le_refl _) _).setCell (Nat.le_refl _) _).setCell (Nat.le_refl _) _)⟩
          · rw [if_neg he] at HV
            have k0 : (ge != 0) = true := by simpa using he
            clear he
            go_wp2_with fail
            refine ret_cell_tmp2 rfl w.heap.size 30 Tc.zero.cells rfl ((((((HZ8.out.set 0 _).set 1 _).set 2 _).set 3 _).set 4 _).set 5 _) Try.underlying30 rfl (by kernel_rfl) rfl ?_
            exact ⟨by rw [HV.out]; rfl, ((((((HL8.out.setCell (Nat.le_refl _) _).setCell (Nat.le_refl _) _).setCell (Nat.le_refl _) _).setCell (Nat.le_refl _) _).setCell (Nat.le_refl _) _).setCell (Nat.le_refl _) _)⟩
end Go.Proofs.Ytebgehmgjafblaa
