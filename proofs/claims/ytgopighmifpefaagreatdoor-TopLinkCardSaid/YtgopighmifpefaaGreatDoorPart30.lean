/- What is proved here: a part of the proof of TopLink (texts Jt). No condition. -/
import Derived.Test.YtgopighmifpefaaGreatDoorPart13
import Derived.Test.YtgopighmifpefaaGreatDoorPart28
set_option linter.unusedVariables false
set_option linter.unusedSimpArgs false
namespace Go.Proofs.YtgopighmifpefaaGreatDoor
section
open Go.RowKit
set_option maxHeartbeats 8000000 in
set_option maxRecDepth 100000 in
theorem transmit_none {w W : World} {c : Lc} {l : Ls} (lost twice : Bool) (hf : l.s.fine) (hn : (nextF l.s).2 = none) (h : LkM w W c (lkCells c l) l) :
    Calls Tryz.prog 12 #[.pointer (some ⟨c.L, 0, none⟩), .bool lost, .bool twice] W fun e w' => e = .returned (.bool false) ∧ LkIn w w' c.L { l with s := (nextF l.s).1 } := by
  have hNX : ∀ (S1 : List Nat) (W1 : World), (∀ i ∈ S1, i < W1.heap.size) → FopIn W1 c.gf S1 l.s → Calls Tryz.prog 33 #[.pointer (some ⟨c.gf, 0, none⟩)] W1 fun e w' => e = .returned (.tuple #[.agg #[.int .i64 0, .int .i64 0, .bool false, .bool false, .int .i64 0, .string ⟨#[]⟩], .bool false]) ∧ FopTo W1 w' c.gf S1 (nextF l.s).1 := fun S1 W1 hl hi => by
    have := Next_all l.s c.gf S1 W1 hf hl hi
    rw [hn] at this
    exact this
  have HNX := Lib.hid hNX
  obtain ⟨S, hS⟩ : ∃ S, S = (nextF l.s).1 := ⟨_, rfl⟩
  rw [← hS] at HNX ⊢
  clear hNX hS hn hf
  have c0 := h.blk.cell 0
  simp only [lkCells, List.cons_append, List.nil_append, List.getElem?_cons_zero, List.getElem?_cons_succ, pt] at c0
  have HP := Lib.hid h
  clear h
  go_enter Tryz.func12, Tryz.ntmps12
  go_wp2_with fail
  obtain ⟨S1, hI, hlt, hnx, hgv⟩ := HP.out.fop.call
  refine (HNX.out S1 _ hlt hI).mono ?_
  rintro e W1 ⟨rfl, hT⟩
  obtain ⟨hX, hR⟩ := hnx hT
  have hP1 := HP.out.call hX hR
  have HP1 := Lib.hid hP1
  clear hI hlt hnx hgv hT hX hR hP1 HP HNX c0
  go_wp2_with fail
  have hP2 := HP1.out.below ((Below.refl W1.heap.size W1).alloc (Nat.le_refl _) (Obj.cells #[.int .i64 0, .int .i64 0, .bool false, .bool false, .int .i64 0, .string ⟨#[]⟩] 37))
  go_ret
  exact ⟨rfl, c, rfl, hP2⟩
set_option maxHeartbeats 16000000 in
set_option maxRecDepth 100000 in
theorem transmit_some {w W : World} {c : Lc} {l : Ls} (x : Tc) (lost twice : Bool) (hG : Gl w) (hf : l.s.fine) (hn : (nextF l.s).2 = some x) (hg : x.good = true) (hlf : l.frames.length ≤ 1000000) (hlu : l.units.length ≤ 1000000) (h : LkM w W c (lkCells c l) l) :
    Calls Tryz.prog 12 #[.pointer (some ⟨c.L, 0, none⟩), .bool lost, .bool twice] W fun e w' => e = .returned (.bool true) ∧ LkIn w w' c.L { l with s := (nextF l.s).1, frames := l.frames ++ (if lost then [] else if twice then [x, x] else [x]), units := l.units ++ (if lost then [] else if twice then [unitOf x, unitOf x] else [unitOf x]) } := by
  obtain ⟨xc, xch, xb, xk, xs, xd⟩ := x
  have hNX : ∀ (S1 : List Nat) (W1 : World), (∀ i ∈ S1, i < W1.heap.size) → FopIn W1 c.gf S1 l.s → Calls Tryz.prog 33 #[.pointer (some ⟨c.gf, 0, none⟩)] W1 fun e w' => e = .returned (.tuple #[.agg #[.int .i64 xc, .int .i64 xch, .bool xb, .bool xk, .int .i64 xs, .string xd], .bool true]) ∧ FopTo W1 w' c.gf S1 (nextF l.s).1 := fun S1 W1 hl hi => by
    have := Next_all l.s c.gf S1 W1 hf hl hi
    rw [hn] at this
    exact this
  have HNX := Lib.hid hNX
  obtain ⟨S, hS⟩ : ∃ S, S = (nextF l.s).1 := ⟨_, rfl⟩
  rw [← hS] at HNX ⊢
  have hd1 : 1 ≤ xd.size ∧ xd.size ≤ 200 := by
    obtain ⟨_, _, _, _, _, _, z1, z2, _, _⟩ := Tc.good_nat _ hg
    exact ⟨by assumption, by assumption⟩
  obtain ⟨x, hx⟩ : ∃ x : Tc, x = ⟨xc, xch, xb, xk, xs, xd⟩ := ⟨_, rfl⟩
  have hxd : x.data = xd := by rw [hx]
  rw [← hx] at hg ⊢
  obtain ⟨-, -, e3, -, -⟩ := enc_nat2 x hg
  rw [hxd] at e3
  have hPT : ∀ W1, Calls Tryz.prog 34 #[.agg #[.int .i64 xc, .int .i64 xch, .bool xb, .bool xk, .int .i64 xs, .string xd]] W1 fun e w' => e = .returned (.tuple #[.string ⟨x.enc.toArray⟩, .int .i64 0]) ∧ Below W1.heap.size W1 w' := fun W1 => by
    have := Put_any x W1
    unfold Tc.putV at this
    rw [if_pos hg, hx] at this
    rw [hx]
    exact this
  have hUT : ∀ W1, Gl W1 → Calls Tryz.prog 35 #[.string ⟨x.enc.toArray⟩] W1 fun e w' => e = .returned (.tuple #[.string (unitOf x), .int .i64 0]) ∧ Below W1.heap.size W1 w' := fun W1 hg1 =>
    clPut_any ⟨x.enc.toArray⟩ W1 (by show 1 ≤ x.enc.toArray.size; simp only [List.size_toArray, e3]; omega) (by show x.enc.toArray.size ≤ 350; simp only [List.size_toArray, e3]; omega) hg1
  obtain ⟨eb, heb⟩ : ∃ eb : ByteArray, eb = ⟨x.enc.toArray⟩ := ⟨_, rfl⟩
  obtain ⟨u, hu⟩ : ∃ u, u = unitOf x := ⟨_, rfl⟩
  rw [← heb] at hPT hUT
  rw [← hu] at hUT ⊢
  rw [hx]
  obtain ⟨l1, hl1⟩ : ∃ l1 : Ls, l1 = { l with s := S } := ⟨_, rfl⟩
  have e1 : l1.frames = l.frames := by rw [hl1]
  have e2 : l1.units = l.units := by rw [hl1]
  have e4 : ({ l with s := S, frames := l.frames ++ (if lost = true then [] else if twice = true then [⟨xc, xch, xb, xk, xs, xd⟩, ⟨xc, xch, xb, xk, xs, xd⟩] else [⟨xc, xch, xb, xk, xs, xd⟩]), units := l.units ++ (if lost = true then [] else if twice = true then [u, u] else [u]) } : Ls) = { l1 with frames := l1.frames ++ (if lost = true then [] else if twice = true then [⟨xc, xch, xb, xk, xs, xd⟩, ⟨xc, xch, xb, xk, xs, xd⟩] else [⟨xc, xch, xb, xk, xs, xd⟩]), units := l1.units ++ (if lost = true then [] else if twice = true then [u, u] else [u]) } := by
    rw [hl1]
  rw [e4]
  obtain ⟨l3, hl3⟩ : ∃ l3 : Ls, l3 = { l1 with frames := l1.frames ++ (if lost = true then [] else if twice = true then [⟨xc, xch, xb, xk, xs, xd⟩, ⟨xc, xch, xb, xk, xs, xd⟩] else [⟨xc, xch, xb, xk, xs, xd⟩]), units := l1.units ++ (if lost = true then [] else if twice = true then [u, u] else [u]) } := ⟨_, rfl⟩
  rw [← hl3]
  have HL3 := Lib.hid hl3
  rw [← e1] at hlf
  rw [← e2] at hlu
  have HL1 := Lib.hid hl1
  clear e1 e2 e4 hl1 hl3
  have HPT := Lib.hid hPT; have HUT := Lib.hid hUT; have HG := Lib.hid hG
  clear hNX hS hn hf e3 heb hu hd1 hg hPT hUT hG hxd hx x
  have c0 := h.blk.cell 0
  simp only [lkCells, List.cons_append, List.nil_append, List.getElem?_cons_zero, List.getElem?_cons_succ, pt] at c0
  have HP := Lib.hid h
  clear h
  go_enter Tryz.func12, Tryz.ntmps12
  go_wp2_with fail
  obtain ⟨S1, hI, hlt, hnx, hgv⟩ := HP.out.fop.call
  refine (HNX.out S1 _ hlt hI).mono ?_
  rintro e W1 ⟨rfl, hT⟩
  obtain ⟨hX, hR⟩ := hnx hT
  have hP1 : LkM w W1 c (lkCells c l1) l1 := by rw [HL1.out]; exact HP.out.call hX hR
  have hBz : Below W1.heap.size W1 (W1.alloc (Obj.cells #[.int .i64 xc, .int .i64 xch, .bool xb, .bool xk, .int .i64 xs, .string xd] 37)) := (Below.refl _ _).alloc (Nat.le_refl _) _
  have HP1 := Lib.hid (hP1.below hBz)
  have HX1 := Lib.hid (Blk.new W1 [.int .i64 xc, .int .i64 xch, .bool xb, .bool xk, .int .i64 xs, .string xd] 37)
  have HO1 : Hid (OutC c (W1.alloc (Obj.cells #[.int .i64 xc, .int .i64 xch, .bool xb, .bool xk, .int .i64 xs, .string xd] 37)) W1.heap.size) := Lib.hid ⟨by simp, fun hm => by have := (hP1.lt _ hm).2; omega⟩
  clear hI hlt hnx hgv hT hX hR hP1 HP HNX c0 hBz
  go_upto_region 4 with fail
  obtain ⟨r, hr⟩ : ∃ r, r = W1.heap.size := ⟨_, rfl⟩
  rw [← hr] at HX1 HO1 ⊢
  refine gen_world (fun W' => LkM w W' c (lkCells c l1) l1 ∧ OutC c W' r ∧ Blk W' r [.int .i64 xc, .int .i64 xch, .bool xb, .bool xk, .int .i64 xs, .string xd] 37) ⟨HP1.out, HO1.out, HX1.out⟩ ?_
  clear HP1 HX1 HO1 hr
  rintro W2 ⟨hP, hO, hX⟩
  have HP := Lib.hid hP; have HO := Lib.hid hO; have HX := Lib.hid hX
  clear hP hO hX
  have x0 := HX.out.cell 0
  have x1 := HX.out.cell 1
  have x2 := HX.out.cell 2
  have x3 := HX.out.cell 3
  have x4 := HX.out.cell 4
  have x5 := HX.out.cell 5
  simp only [List.getElem?_cons_zero, List.getElem?_cons_succ] at x0 x1 x2 x3 x4 x5
  go_wp2_with fail
  refine (HPT.out _).mono ?_
  rintro e W3 ⟨rfl, hL⟩
  have hP3 := HP.out.below hL; have hX3 := HX.out.below hL HX.out.lt
  have hO3 : OutC c W3 r := ⟨Nat.lt_of_lt_of_le HO.out.1 hL.size, HO.out.2⟩
  clear HP HX HO hL x0 x1 x2 x3 x4 x5 HPT
  have HP := Lib.hid hP3; have HX := Lib.hid hX3; have HO := Lib.hid hO3
  clear hP3 hX3 hO3
  go_wp2_with fail
  refine (HUT.out _ (HP.out.gl HG.out)).mono ?_
  rintro e W4 ⟨rfl, hL⟩
  have hP3 := HP.out.below hL; have hX3 := HX.out.below hL HX.out.lt
  have hO3 : OutC c W4 r := ⟨Nat.lt_of_lt_of_le HO.out.1 hL.size, HO.out.2⟩
  clear HP HX HO hL HUT HG
  have HP := Lib.hid hP3; have HX := Lib.hid hX3; have HO := Lib.hid hO3
  clear hP3 hX3 hO3
  cases lost
  · go_upto_region 10 with fail
    go_cut [] (fun W2 => ∃ c' : Lc, c'.L = c.L ∧ LkM w W2 c' (lkCells c' { l1 with frames := l1.frames ++ [⟨xc, xch, xb, xk, xs, xd⟩], units := l1.units ++ [u] }) { l1 with frames := l1.frames ++ [⟨xc, xch, xb, xk, xs, xd⟩], units := l1.units ++ [u] } ∧ OutC c' W2 r ∧ Blk W2 r [.int .i64 xc, .int .i64 xch, .bool xb, .bool xk, .int .i64 xs, .string xd] 37)
    case first =>
      obtain ⟨i0, hi0, hz0, hz1, hz2⟩ := info_parts info_tc
      obtain ⟨i1, hi1, hw0, hw1, hw2⟩ := info_parts info_s1
      have x0 : ∀ W', RdL c.L r (lkCells c l1) [.int .i64 xc, .int .i64 xch, .bool xb, .bool xk, .int .i64 xs, .string xd] W' → W'.cell? ⟨c.L, 6, none⟩ = some c.fv ∧ W'.cell? ⟨c.L, 7, none⟩ = some c.uv ∧ W'.cell? ⟨r, 0, none⟩ = some (.int .i64 xc) ∧ W'.cell? ⟨r, 1, none⟩ = some (.int .i64 xch) ∧ W'.cell? ⟨r, 2, none⟩ = some (.bool xb) ∧ W'.cell? ⟨r, 3, none⟩ = some (.bool xk) ∧ W'.cell? ⟨r, 4, none⟩ = some (.int .i64 xs) ∧ W'.cell? ⟨r, 5, none⟩ = some (.string xd) := fun W' hk => ⟨hk.1.cell 6, hk.1.cell 7, hk.2.cell 0, hk.2.cell 1, hk.2.cell 2, hk.2.cell 3, hk.2.cell 4, hk.2.cell 5⟩
      refine region_ent (RdL c.L r (lkCells c l1) [.int .i64 xc, .int .i64 xch, .bool xb, .bool xk, .int .i64 xs, .string xd]) 18 (by kernel_rfl) ⟨HP.out.blk.drew, HX.out.drew⟩ (fun hInv hHeld => ?_)
      have hPd := HP.out.drew; have hXd := HX.out.drew; have hOd : OutC c W4.drew r := HO.out
      generalize W4.drew = W0 at hPd hXd hOd hHeld ⊢
      clear HP HX HO
      have HP := Lib.hid hPd; have HX := Lib.hid hXd; have HO := Lib.hid hOd
      clear hPd hXd hOd
      have hL : Below W0.heap.size W0 W0 := Below.refl _ _
      refine WpEnt.takeP (i := 1) (some 45) (v := ?_) rfl rfl (by kernel_rfl) (by kernel_rfl) (by kernel_rfl) (fun _ _ _ h => h) (by decide) hInv (by assumption) (by rfl) ?_ (fun hInv2 => ?_)
      rotate_left
      · (intro w; go_simp; (try with_reducible rfl))
      clear hInv; have hInv := hInv2; clear hInv2
      simp only [Act.put, List.setIfInBounds_toArray, List.set_cons_zero, List.set_cons_succ]
      refine WpEnt.take 1 (i := 0) (some 44) (v := ?_) rfl rfl (by kernel_rfl) (by kernel_rfl) (by kernel_rfl) (fun _ _ _ h => h) (by kernel_rfl) hInv (by assumption) (by rfl) ?_ (fun hInv2 => ?_)
      rotate_left
      · (intro w hSw; (try dsimp only at hSw); obtain ⟨s6, s7, s0, s1, s2, s3, s4, s5⟩ := x0 _ hSw; go_simp; (try with_reducible rfl))
      clear hInv; have hInv := hInv2; clear hInv2
      simp only [Act.put, List.setIfInBounds_toArray, List.set_cons_zero, List.set_cons_succ]
      refine WpEnt.take 1 (i := 2) (some 46) (v := ?_) rfl rfl (by kernel_rfl) (by kernel_rfl) (by kernel_rfl) (fun _ _ _ h => h) (by kernel_rfl) hInv (by assumption) (by rfl) ?_ (fun hInv2 => ?_)
      rotate_left
      · (intro w hSw; (try dsimp only at hSw); obtain ⟨s6, s7, s0, s1, s2, s3, s4, s5⟩ := x0 _ hSw; go_simp; (try with_reducible rfl))
      clear hInv; have hInv := hInv2; clear hInv2
      simp only [Act.put, List.setIfInBounds_toArray, List.set_cons_zero, List.set_cons_succ]
      refine WpEnt.take 1 (i := 3) (some 47) (v := ?_) rfl rfl (by kernel_rfl) (by kernel_rfl) (by kernel_rfl) (fun _ _ _ h => h) (by kernel_rfl) hInv (by assumption) (by rfl) ?_ (fun hInv2 => ?_)
      rotate_left
      · (intro w hSw; (try dsimp only at hSw); obtain ⟨s6, s7, s0, s1, s2, s3, s4, s5⟩ := x0 _ hSw; go_simp; (try with_reducible rfl))
      clear hInv; have hInv := hInv2; clear hInv2
      simp only [Act.put, List.setIfInBounds_toArray, List.set_cons_zero, List.set_cons_succ]
      refine WpEnt.take 1 (i := 4) (some 48) (v := ?_) rfl rfl (by kernel_rfl) (by kernel_rfl) (by kernel_rfl) (fun _ _ _ h => h) (by kernel_rfl) hInv (by assumption) (by rfl) ?_ (fun hInv2 => ?_)
      rotate_left
      · (intro w hSw; (try dsimp only at hSw); obtain ⟨s6, s7, s0, s1, s2, s3, s4, s5⟩ := x0 _ hSw; go_simp; (try with_reducible rfl))
      clear hInv; have hInv := hInv2; clear hInv2
      simp only [Act.put, List.setIfInBounds_toArray, List.set_cons_zero, List.set_cons_succ]
      refine WpEnt.take 1 (i := 5) (some 49) (v := ?_) rfl rfl (by kernel_rfl) (by kernel_rfl) (by kernel_rfl) (fun _ _ _ h => h) (by kernel_rfl) hInv (by assumption) (by rfl) ?_ (fun hInv2 => ?_)
      rotate_left
      · (intro w hSw; (try dsimp only at hSw); obtain ⟨s6, s7, s0, s1, s2, s3, s4, s5⟩ := x0 _ hSw; go_simp; (try with_reducible rfl))
      clear hInv; have hInv := hInv2; clear hInv2
      simp only [Act.put, List.setIfInBounds_toArray, List.set_cons_zero, List.set_cons_succ]
      refine WpEnt.take 1 (i := 6) (some 50) (v := ?_) rfl rfl (by kernel_rfl) (by kernel_rfl) (by kernel_rfl) (fun _ _ _ h => h) (by kernel_rfl) hInv (by assumption) (by rfl) ?_ (fun hInv2 => ?_)
      rotate_left
      · (intro w hSw; (try dsimp only at hSw); obtain ⟨s6, s7, s0, s1, s2, s3, s4, s5⟩ := x0 _ hSw; go_simp; (try with_reducible rfl))
      clear hInv; have hInv := hInv2; clear hInv2
      simp only [Act.put, List.setIfInBounds_toArray, List.set_cons_zero, List.set_cons_succ]
      refine WpEnt.take 1 (i := 9) (some 53) (v := ?_) rfl rfl (by kernel_rfl) (by kernel_rfl) (by kernel_rfl) (fun _ _ _ h => h) (by kernel_rfl) hInv (by assumption) (by rfl) ?_ (fun hInv2 => ?_)
      rotate_left
      · (intro w hSw; (try dsimp only at hSw); obtain ⟨s6, s7, s0, s1, s2, s3, s4, s5⟩ := x0 _ hSw; go_simp; (try with_reducible rfl))
      clear hInv; have hInv := hInv2; clear hInv2
      simp only [Act.put, List.setIfInBounds_toArray, List.set_cons_zero, List.set_cons_succ]
      refine WpEnt.take 1 (i := 10) (some 54) (v := ?_) rfl rfl (by kernel_rfl) (by kernel_rfl) (by kernel_rfl) (fun _ _ _ h => h) (by kernel_rfl) hInv (by assumption) (by rfl) ?_ (fun hInv2 => ?_)
      rotate_left
      · (intro w hSw; (try dsimp only at hSw); obtain ⟨s6, s7, s0, s1, s2, s3, s4, s5⟩ := x0 _ hSw; go_simp; (try with_reducible rfl))
      clear hInv; have hInv := hInv2; clear hInv2
      simp only [Act.put, List.setIfInBounds_toArray, List.set_cons_zero, List.set_cons_succ]
      refine WpEnt.take 1 (i := 11) (some 55) (v := ?_) rfl rfl (by kernel_rfl) (by kernel_rfl) (by kernel_rfl) (fun _ _ _ h => h) (by kernel_rfl) hInv (by assumption) (by rfl) ?_ (fun hInv2 => ?_)
      rotate_left
      · (intro w hSw; (try dsimp only at hSw); obtain ⟨s6, s7, s0, s1, s2, s3, s4, s5⟩ := x0 _ hSw; go_simp; (try with_reducible rfl))
      clear hInv; have hInv := hInv2; clear hInv2
      simp only [Act.put, List.setIfInBounds_toArray, List.set_cons_zero, List.set_cons_succ]
      refine WpEnt.take 1 (i := 12) (some 56) (v := ?_) rfl rfl (by kernel_rfl) (by kernel_rfl) (by kernel_rfl) (fun _ _ _ h => h) (by kernel_rfl) hInv (by assumption) (by rfl) ?_ (fun hInv2 => ?_)
      rotate_left
      · (intro w hSw; (try dsimp only at hSw); obtain ⟨s6, s7, s0, s1, s2, s3, s4, s5⟩ := x0 _ hSw; go_simp; (try with_reducible rfl))
      clear hInv; have hInv := hInv2; clear hInv2
      simp only [Act.put, List.setIfInBounds_toArray, List.set_cons_zero, List.set_cons_succ]
      refine WpEnt.take 1 (i := 13) (some 57) (v := ?_) rfl rfl (by kernel_rfl) (by kernel_rfl) (by kernel_rfl) (fun _ _ _ h => h) (by kernel_rfl) hInv (by assumption) (by rfl) ?_ (fun hInv2 => ?_)
      rotate_left
      · (intro w hSw; (try dsimp only at hSw); obtain ⟨s6, s7, s0, s1, s2, s3, s4, s5⟩ := x0 _ hSw; go_simp; (try with_reducible rfl))
      clear hInv; have hInv := hInv2; clear hInv2
      simp only [Act.put, List.setIfInBounds_toArray, List.set_cons_zero, List.set_cons_succ]
      refine WpEnt.ready (rs := [7, 14]) (by kernel_rfl) (by simp) ?_
      refine EachEnt.cons (some 51) rfl rfl (by decide) (by kernel_rfl) hInv (fun K hKK hKB => ?_) (EachEnt.cons (some 58) rfl rfl (by decide) (by kernel_rfl) hInv (fun K hKK hKB => ?_) EachEnt.nil)
      · refine step_build_1 34 37 [.int .i64 xc, .int .i64 xch, .bool xb, .bool xk, .int .i64 xs, .string xd] rfl _ rfl _ rfl (build_tc _ ⟨xc, xch, xb, xk, xs, xd⟩) ?_
        have hL2 := hL.alloc hL.size (Obj.cells (List.toArray [.int .i64 xc, .int .i64 xch, .bool xb, .bool xk, .int .i64 xs, .string xd]) 37)
        have hyA := Blk.new W0 [.int .i64 xc, .int .i64 xch, .bool xb, .bool xk, .int .i64 xs, .string xd] 37
        obtain ⟨nA, hnA⟩ : ∃ nb, nb = W0.heap.size := ⟨_, rfl⟩
        have hmA : W0.heap.size ≤ nA := by rw [hnA]; exact hL.size
        rw [← hnA] at hyA ⊢
        obtain ⟨Wn, hWn⟩ : ∃ Wb, Wb = W0.alloc (Obj.cells (List.toArray [.int .i64 xc, .int .i64 xch, .bool xb, .bool xk, .int .i64 xs, .string xd]) 37) := ⟨_, rfl⟩
        rw [← hWn] at hL2 hyA ⊢
        refine hKK.out _ _ ⟨HP.out.blk.below hL2 HP.out.blk.lt, HX.out.below hL2 HX.out.lt⟩ (fun hInv2 hHeld2 => ?_)
        clear hWn hnA hL
        have hL := hL2; clear hL2
        clear hKK hKB K hInv hHeld; have hInv := hInv2; have hHeld := hHeld2; clear hInv2 hHeld2
        simp only [Act.put, List.setIfInBounds_toArray, List.set_cons_zero, List.set_cons_succ]
        refine WpEnt.ready (rs := [8, 14]) (by kernel_rfl) (by simp) ?_
        refine EachEnt.cons (some 52) rfl rfl (by decide) (by kernel_rfl) hInv (fun K hKK hKB => ?_) (EachEnt.cons (some 58) rfl rfl (by decide) (by kernel_rfl) hInv (fun K hKK hKB => ?_) EachEnt.nil)
        · refine step_append_q 34 37 6 48 i0 (.agg #[.int .i64 0, .int .i64 0, .bool false, .bool false, .int .i64 0, .string ⟨#[]⟩]) rfl _ _ rfl Tryz.underlying34 hi0 hz0 rfl hz1 hz2 0 c.fv l1.frames.length _ rfl (q_below HP.out.frames hL (Nat.le_refl _)) nA 0 1 1 [.int .i64 xc, .int .i64 xch, .bool xb, .bool xk, .int .i64 xs, .string xd] rfl rfl (by intro z hz; simp at hz; rcases hz with rfl | rfl | rfl | rfl | rfl | rfl <;> rfl) (fun j z hj => by rw [Nat.zero_add]; exact (hyA.cell j).trans hj) (by omega) (by unfold maxLen; omega) (Nat.zero_le _) ?_
          intro v6 Wd hq hk hm
          obtain ⟨hPn, hTn⟩ := HP.out.pushF (q := l1.frames ++ [⟨xc, xch, xb, xk, xs, xd⟩]) hL hk hm (by simp only [List.length_append, List.length_singleton, tcRow_snoc]; exact hq)
          have hOn := hTn.out HO.out
          have hXn := HX.out.same hOn.2
          refine hKK.out _ _ ⟨hPn.blk, hXn⟩ (fun hInv2 hHeld2 => ?_)
          clear HP HX HO hL hyA hmA hk hm hq hTn
          have HP := Lib.hid hPn; have HX := Lib.hid hXn; have HO := Lib.hid hOn.1
          clear hPn hXn hOn
          have hL : Below Wd.heap.size Wd Wd := Below.refl _ _
          clear hKK hKB K hInv hHeld; have hInv := hInv2; have hHeld := hHeld2; clear hInv2 hHeld2
          simp only [Act.put, List.setIfInBounds_toArray, List.set_cons_zero, List.set_cons_succ]
          refine WpEnt.ready (rs := [14]) (by kernel_rfl) (by simp) ?_
          refine EachEnt.cons (some 58) rfl rfl (by decide) (by kernel_rfl) hInv (fun K hKK hKB => ?_) (EachEnt.nil)
          refine step_build_1 33 9 [.string u] rfl _ rfl _ rfl (build_str _ u) ?_
          have hL2 := hL.alloc hL.size (Obj.cells (List.toArray [.string u]) 9)
          have hyB := Blk.new Wd [.string u] 9
          obtain ⟨nB, hnB⟩ : ∃ nb, nb = Wd.heap.size := ⟨_, rfl⟩
          have hmB : Wd.heap.size ≤ nB := by rw [hnB]; exact hL.size
          rw [← hnB] at hyB ⊢
          obtain ⟨Wn, hWn⟩ : ∃ Wb, Wb = Wd.alloc (Obj.cells (List.toArray [.string u]) 9) := ⟨_, rfl⟩
          rw [← hWn] at hL2 hyB ⊢
          refine hKK.out _ _ ⟨HP.out.blk.below hL2 HP.out.blk.lt, HX.out.below hL2 HX.out.lt⟩ (fun hInv2 hHeld2 => ?_)
          clear hWn hnB hL
          have hL := hL2; clear hL2
          clear hKK hKB K hInv hHeld; have hInv := hInv2; have hHeld := hHeld2; clear hInv2 hHeld2
          simp only [Act.put, List.setIfInBounds_toArray, List.set_cons_zero, List.set_cons_succ]
          refine WpEnt.ready (rs := [15]) (by kernel_rfl) (by simp) ?_
          refine EachEnt.cons (some 59) rfl rfl (by decide) (by kernel_rfl) hInv (fun K hKK hKB => ?_) (EachEnt.nil)
          refine step_append_q 33 9 1 16 i1 (.string ⟨#[]⟩) rfl _ _ rfl Tryz.underlying33 hi1 hw0 rfl hw1 hw2 0 c.uv l1.units.length _ rfl (q_below HP.out.units hL (Nat.le_refl _)) nB 0 1 1 [.string u] rfl rfl (by intro z hz; simp at hz; subst hz; rfl) (fun j z hj => by rw [Nat.zero_add]; exact (hyB.cell j).trans hj) (by omega) (by unfold maxLen; omega) (Nat.zero_le _) ?_
          intro v7 We hq hk hm
          obtain ⟨hPn, hTn⟩ := HP.out.pushU (q := l1.units ++ [u]) hL hk hm (by simp only [List.length_append, List.length_singleton, stRow_snoc]; exact hq)
          have hOn := hTn.out HO.out
          have hXn := HX.out.same hOn.2
          refine hKK.out _ _ ⟨hPn.blk, hXn⟩ (fun hInv2 hHeld2 => ?_)
          clear HP HX HO hL hyB hmB hk hm hq hTn
          have HP := Lib.hid hPn; have HX := Lib.hid hXn; have HO := Lib.hid hOn.1
          clear hPn hXn hOn
          clear hKK hKB K hInv hHeld; have hInv := hInv2; have hHeld := hHeld2; clear hInv2 hHeld2
          simp only [Act.put, List.setIfInBounds_toArray, List.set_cons_zero, List.set_cons_succ]
          refine WpEnt.take 1 (i := 16) (some 60) (v := ?_) rfl rfl (by kernel_rfl) (by kernel_rfl) (by kernel_rfl) (fun _ _ _ h => h) (by kernel_rfl) hInv (by assumption) (by rfl) ?_ (fun hInv2 => ?_)
          rotate_left
          · (intro w hSw; (try dsimp only at hSw); obtain ⟨s6, s7, s0, s1, s2, s3, s4, s5⟩ := x0 _ hSw; go_simp; (try with_reducible rfl))
          clear hInv; have hInv := hInv2; clear hInv2
          simp only [Act.put, List.setIfInBounds_toArray, List.set_cons_zero, List.set_cons_succ]
          refine WpEnt.take 1 (i := 17) (some 61) (v := ?_) rfl rfl (by kernel_rfl) (by kernel_rfl) (by kernel_rfl) (fun _ _ _ h => h) (by kernel_rfl) hInv (by assumption) (by rfl) ?_ (fun hInv2 => ?_)
          rotate_left
          · (intro w hSw; (try dsimp only at hSw); obtain ⟨s6, s7, s0, s1, s2, s3, s4, s5⟩ := x0 _ hSw; go_simp; (try with_reducible rfl))
          clear hInv; have hInv := hInv2; clear hInv2
          simp only [Act.put, List.setIfInBounds_toArray, List.set_cons_zero, List.set_cons_succ]
          refine WpEnt.ready (rs := [18]) (by kernel_rfl) (by simp) ?_
          refine EachEnt.past rfl (by kernel_rfl) (fun K hKK => ?_)
          obtain ⟨fa, fc, hfv⟩ := qform HP.out.frames
          obtain ⟨ua, uc, huv⟩ := qform HP.out.units
          simp only [List.length_append, List.length_singleton] at hfv huv
          subst hfv huv
          have c6 := HP.out.blk.cell 6; have f6 := HP.out.blk.free 6
          simp only [lkCells, List.cons_append, List.nil_append, List.getElem?_cons_zero, List.getElem?_cons_succ] at c6
          have hPp := HP.out.poke 6 (.slice fa (l1.frames.length + 1) fc)
          have hTp := LkTo.poke (W := We) (c := { c with fv := .slice fa (l1.frames.length + 1) fc, uv := .slice ua (l1.units.length + 1) uc }) 6 (.slice fa (l1.frames.length + 1) fc)
          have hOp := hTp.out HO.out
          have hXp := HX.out.same hOp.2
          go_simp
          refine hKK.out _ _ ?_
          clear hKK K c6 f6 HP HX HO hTp hInv hHeld
          generalize We.setCell ⟨c.L, 6, none⟩ (.slice fa (l1.frames.length + 1) fc) = Wf at hPp hXp hOp ⊢
          have HP := Lib.hid hPp; have HX := Lib.hid hXp; have HO := Lib.hid hOp.1
          clear hPp hXp hOp
          have c7 := HP.out.blk.cell 7; have f7 := HP.out.blk.free 7
          simp only [lkCells, List.cons_append, List.nil_append, List.set_cons_zero, List.set_cons_succ, List.getElem?_cons_zero, List.getElem?_cons_succ] at c7
          refine WpEnt.ready (rs := [19]) (by kernel_rfl) (by simp) ?_
          refine EachEnt.past rfl (by kernel_rfl) (fun K hKK => ?_)
          go_simp
          refine hKK.out _ _ ?_
          clear hKK K
          try simp only [Act.put, List.setIfInBounds_toArray, List.set_cons_zero, List.set_cons_succ]
          refine WpEnt.ready (rs := [20]) (by kernel_rfl) (by simp) ?_
          refine EachEnt.past rfl (by kernel_rfl) (fun K hKK => ?_)
          go_simp
          refine hKK.out _ _ ?_
          clear hKK K
          try simp only [Act.put, List.setIfInBounds_toArray, List.set_cons_zero, List.set_cons_succ]
          refine WpEnt.ready (rs := [21]) (by kernel_rfl) (by simp) ?_
          refine EachEnt.past rfl (by kernel_rfl) (fun K hKK => ?_)
          go_simp
          refine hKK.out _ _ ?_
          clear hKK K
          have hPp := HP.out.poke 7 (.slice ua (l1.units.length + 1) uc)
          have hTp := LkTo.poke (W := Wf) (c := { c with fv := .slice fa (l1.frames.length + 1) fc, uv := .slice ua (l1.units.length + 1) uc }) 7 (.slice ua (l1.units.length + 1) uc)
          have hOp := hTp.out HO.out
          have hXp := HX.out.same hOp.2
          refine WpEnt.done (by kernel_rfl) ?_ _
          refine post_any (fun W' => ∃ c' : Lc, c'.L = c.L ∧ LkM w W' c' (lkCells c' { l1 with frames := l1.frames ++ [⟨xc, xch, xb, xk, xs, xd⟩], units := l1.units ++ [u] }) { l1 with frames := l1.frames ++ [⟨xc, xch, xb, xk, xs, xd⟩], units := l1.units ++ [u] } ∧ OutC c' W' r ∧ Blk W' r [.int .i64 xc, .int .i64 xch, .bool xb, .bool xk, .int .i64 xs, .string xd] 37) ⟨{ c with fv := .slice fa (l1.frames.length + 1) fc, uv := .slice ua (l1.units.length + 1) uc }, rfl, hPp, hOp.1, hXp⟩ ?_
          clear hPp hTp hOp hXp HP HX HO c7 f7 x0
          rintro W3 ⟨c', hcL, hP, hO, hX⟩
          go_wp2_with fail
          go_meet
          exact ⟨c', hcL, hP, hO, hX⟩
        · refine step_build_1 33 9 [.string u] rfl _ rfl _ rfl (build_str _ u) ?_
          have hL2 := hL.alloc hL.size (Obj.cells (List.toArray [.string u]) 9)
          have hyB := Blk.new Wn [.string u] 9
          have hyo := hyA.alloc (Obj.cells (List.toArray [.string u]) 9); clear hyA; have hyA := hyo; clear hyo
          obtain ⟨nB, hnB⟩ : ∃ nb, nb = Wn.heap.size := ⟨_, rfl⟩
          have hmB : W0.heap.size ≤ nB := by rw [hnB]; exact hL.size
          rw [← hnB] at hyB ⊢
          obtain ⟨Wm, hWn⟩ : ∃ Wb, Wb = Wn.alloc (Obj.cells (List.toArray [.string u]) 9) := ⟨_, rfl⟩
          rw [← hWn] at hL2 hyB hyA ⊢
          refine hKK.out _ _ ⟨HP.out.blk.below hL2 HP.out.blk.lt, HX.out.below hL2 HX.out.lt⟩ (fun hInv2 hHeld2 => ?_)
          clear hWn hnB hL
          have hL := hL2; clear hL2
          clear hKK hKB K hInv hHeld; have hInv := hInv2; have hHeld := hHeld2; clear hInv2 hHeld2
          simp only [Act.put, List.setIfInBounds_toArray, List.set_cons_zero, List.set_cons_succ]
          refine WpEnt.ready (rs := [8]) (by kernel_rfl) (by simp) ?_
          refine EachEnt.cons (some 52) rfl rfl (by decide) (by kernel_rfl) hInv (fun K hKK hKB => ?_) (EachEnt.nil)
          refine step_append_q 34 37 6 48 i0 (.agg #[.int .i64 0, .int .i64 0, .bool false, .bool false, .int .i64 0, .string ⟨#[]⟩]) rfl _ _ rfl Tryz.underlying34 hi0 hz0 rfl hz1 hz2 0 c.fv l1.frames.length _ rfl (q_below HP.out.frames hL (Nat.le_refl _)) nA 0 1 1 [.int .i64 xc, .int .i64 xch, .bool xb, .bool xk, .int .i64 xs, .string xd] rfl rfl (by intro z hz; simp at hz; rcases hz with rfl | rfl | rfl | rfl | rfl | rfl <;> rfl) (fun j z hj => by rw [Nat.zero_add]; exact (hyA.cell j).trans hj) (by omega) (by unfold maxLen; omega) (Nat.zero_le _) ?_
          intro v6 Wd hq hk hm
          obtain ⟨hPn, hTn⟩ := HP.out.pushF (q := l1.frames ++ [⟨xc, xch, xb, xk, xs, xd⟩]) hL hk hm (by simp only [List.length_append, List.length_singleton, tcRow_snoc]; exact hq)
          have hOn := hTn.out HO.out
          have hXn := HX.out.same hOn.2
          have hyo := hyB.keep hk (fun hx => by have := (q_lt HP.out.frames nB (by simpa using hx)).2; omega); clear hyB; have hyB := hyo; clear hyo
          refine hKK.out _ _ ⟨hPn.blk, hXn⟩ (fun hInv2 hHeld2 => ?_)
          clear HP HX HO hL hyA hmA hk hm hq hTn
          have HP := Lib.hid hPn; have HX := Lib.hid hXn; have HO := Lib.hid hOn.1
          clear hPn hXn hOn
          have hL : Below Wd.heap.size Wd Wd := Below.refl _ _
          clear hKK hKB K hInv hHeld; have hInv := hInv2; have hHeld := hHeld2; clear hInv2 hHeld2
          simp only [Act.put, List.setIfInBounds_toArray, List.set_cons_zero, List.set_cons_succ]
          refine WpEnt.ready (rs := [15]) (by kernel_rfl) (by simp) ?_
          refine EachEnt.cons (some 59) rfl rfl (by decide) (by kernel_rfl) hInv (fun K hKK hKB => ?_) (EachEnt.nil)
          refine step_append_q 33 9 1 16 i1 (.string ⟨#[]⟩) rfl _ _ rfl Tryz.underlying33 hi1 hw0 rfl hw1 hw2 0 c.uv l1.units.length _ rfl (q_below HP.out.units hL (Nat.le_refl _)) nB 0 1 1 [.string u] rfl rfl (by intro z hz; simp at hz; subst hz; rfl) (fun j z hj => by rw [Nat.zero_add]; exact (hyB.cell j).trans hj) (by omega) (by unfold maxLen; omega) (Nat.zero_le _) ?_
          intro v7 We hq hk hm
          obtain ⟨hPn, hTn⟩ := HP.out.pushU (q := l1.units ++ [u]) hL hk hm (by simp only [List.length_append, List.length_singleton, stRow_snoc]; exact hq)
          have hOn := hTn.out HO.out
          have hXn := HX.out.same hOn.2
          refine hKK.out _ _ ⟨hPn.blk, hXn⟩ (fun hInv2 hHeld2 => ?_)
          clear HP HX HO hL hyB hmB hk hm hq hTn
          have HP := Lib.hid hPn; have HX := Lib.hid hXn; have HO := Lib.hid hOn.1
          clear hPn hXn hOn
          clear hKK hKB K hInv hHeld; have hInv := hInv2; have hHeld := hHeld2; clear hInv2 hHeld2
          simp only [Act.put, List.setIfInBounds_toArray, List.set_cons_zero, List.set_cons_succ]
          refine WpEnt.take 1 (i := 16) (some 60) (v := ?_) rfl rfl (by kernel_rfl) (by kernel_rfl) (by kernel_rfl) (fun _ _ _ h => h) (by kernel_rfl) hInv (by assumption) (by rfl) ?_ (fun hInv2 => ?_)
          rotate_left
          · (intro w hSw; (try dsimp only at hSw); obtain ⟨s6, s7, s0, s1, s2, s3, s4, s5⟩ := x0 _ hSw; go_simp; (try with_reducible rfl))
          clear hInv; have hInv := hInv2; clear hInv2
          simp only [Act.put, List.setIfInBounds_toArray, List.set_cons_zero, List.set_cons_succ]
          refine WpEnt.take 1 (i := 17) (some 61) (v := ?_) rfl rfl (by kernel_rfl) (by kernel_rfl) (by kernel_rfl) (fun _ _ _ h => h) (by kernel_rfl) hInv (by assumption) (by rfl) ?_ (fun hInv2 => ?_)
          rotate_left
          · (intro w hSw; (try dsimp only at hSw); obtain ⟨s6, s7, s0, s1, s2, s3, s4, s5⟩ := x0 _ hSw; go_simp; (try with_reducible rfl))
          clear hInv; have hInv := hInv2; clear hInv2
          simp only [Act.put, List.setIfInBounds_toArray, List.set_cons_zero, List.set_cons_succ]
          refine WpEnt.ready (rs := [18]) (by kernel_rfl) (by simp) ?_
          refine EachEnt.past rfl (by kernel_rfl) (fun K hKK => ?_)
          obtain ⟨fa, fc, hfv⟩ := qform HP.out.frames
          obtain ⟨ua, uc, huv⟩ := qform HP.out.units
          simp only [List.length_append, List.length_singleton] at hfv huv
          subst hfv huv
          have c6 := HP.out.blk.cell 6; have f6 := HP.out.blk.free 6
          simp only [lkCells, List.cons_append, List.nil_append, List.getElem?_cons_zero, List.getElem?_cons_succ] at c6
          have hPp := HP.out.poke 6 (.slice fa (l1.frames.length + 1) fc)
          have hTp := LkTo.poke (W := We) (c := { c with fv := .slice fa (l1.frames.length + 1) fc, uv := .slice ua (l1.units.length + 1) uc }) 6 (.slice fa (l1.frames.length + 1) fc)
          have hOp := hTp.out HO.out
          have hXp := HX.out.same hOp.2
          go_simp
          refine hKK.out _ _ ?_
          clear hKK K c6 f6 HP HX HO hTp hInv hHeld
          generalize We.setCell ⟨c.L, 6, none⟩ (.slice fa (l1.frames.length + 1) fc) = Wf at hPp hXp hOp ⊢
          have HP := Lib.hid hPp; have HX := Lib.hid hXp; have HO := Lib.hid hOp.1
          clear hPp hXp hOp
          have c7 := HP.out.blk.cell 7; have f7 := HP.out.blk.free 7
          simp only [lkCells, List.cons_append, List.nil_append, List.set_cons_zero, List.set_cons_succ, List.getElem?_cons_zero, List.getElem?_cons_succ] at c7
          refine WpEnt.ready (rs := [19]) (by kernel_rfl) (by simp) ?_
          refine EachEnt.past rfl (by kernel_rfl) (fun K hKK => ?_)
          go_simp
          refine hKK.out _ _ ?_
          clear hKK K
          try simp only [Act.put, List.setIfInBounds_toArray, List.set_cons_zero, List.set_cons_succ]
          refine WpEnt.ready (rs := [20]) (by kernel_rfl) (by simp) ?_
          refine EachEnt.past rfl (by kernel_rfl) (fun K hKK => ?_)
          go_simp
          refine hKK.out _ _ ?_
          clear hKK K
          try simp only [Act.put, List.setIfInBounds_toArray, List.set_cons_zero, List.set_cons_succ]
          refine WpEnt.ready (rs := [21]) (by kernel_rfl) (by simp) ?_
          refine EachEnt.past rfl (by kernel_rfl) (fun K hKK => ?_)
          go_simp
          refine hKK.out _ _ ?_
          clear hKK K
          have hPp := HP.out.poke 7 (.slice ua (l1.units.length + 1) uc)
          have hTp := LkTo.poke (W := Wf) (c := { c with fv := .slice fa (l1.frames.length + 1) fc, uv := .slice ua (l1.units.length + 1) uc }) 7 (.slice ua (l1.units.length + 1) uc)
          have hOp := hTp.out HO.out
          have hXp := HX.out.same hOp.2
          refine WpEnt.done (by kernel_rfl) ?_ _
          refine post_any (fun W' => ∃ c' : Lc, c'.L = c.L ∧ LkM w W' c' (lkCells c' { l1 with frames := l1.frames ++ [⟨xc, xch, xb, xk, xs, xd⟩], units := l1.units ++ [u] }) { l1 with frames := l1.frames ++ [⟨xc, xch, xb, xk, xs, xd⟩], units := l1.units ++ [u] } ∧ OutC c' W' r ∧ Blk W' r [.int .i64 xc, .int .i64 xch, .bool xb, .bool xk, .int .i64 xs, .string xd] 37) ⟨{ c with fv := .slice fa (l1.frames.length + 1) fc, uv := .slice ua (l1.units.length + 1) uc }, rfl, hPp, hOp.1, hXp⟩ ?_
          clear hPp hTp hOp hXp HP HX HO c7 f7 x0
          rintro W3 ⟨c', hcL, hP, hO, hX⟩
          go_wp2_with fail
          go_meet
          exact ⟨c', hcL, hP, hO, hX⟩
      · refine step_build_1 33 9 [.string u] rfl _ rfl _ rfl (build_str _ u) ?_
        have hL2 := hL.alloc hL.size (Obj.cells (List.toArray [.string u]) 9)
        have hyB := Blk.new W0 [.string u] 9
        obtain ⟨nB, hnB⟩ : ∃ nb, nb = W0.heap.size := ⟨_, rfl⟩
        have hmB : W0.heap.size ≤ nB := by rw [hnB]; exact hL.size
        rw [← hnB] at hyB ⊢
        obtain ⟨Wn, hWn⟩ : ∃ Wb, Wb = W0.alloc (Obj.cells (List.toArray [.string u]) 9) := ⟨_, rfl⟩
        rw [← hWn] at hL2 hyB ⊢
        refine hKK.out _ _ ⟨HP.out.blk.below hL2 HP.out.blk.lt, HX.out.below hL2 HX.out.lt⟩ (fun hInv2 hHeld2 => ?_)
        clear hWn hnB hL
        have hL := hL2; clear hL2
        clear hKK hKB K hInv hHeld; have hInv := hInv2; have hHeld := hHeld2; clear hInv2 hHeld2
        simp only [Act.put, List.setIfInBounds_toArray, List.set_cons_zero, List.set_cons_succ]
        refine WpEnt.ready (rs := [7]) (by kernel_rfl) (by simp) ?_
        refine EachEnt.cons (some 51) rfl rfl (by decide) (by kernel_rfl) hInv (fun K hKK hKB => ?_) (EachEnt.nil)
        refine step_build_1 34 37 [.int .i64 xc, .int .i64 xch, .bool xb, .bool xk, .int .i64 xs, .string xd] rfl _ rfl _ rfl (build_tc _ ⟨xc, xch, xb, xk, xs, xd⟩) ?_
        have hL2 := hL.alloc hL.size (Obj.cells (List.toArray [.int .i64 xc, .int .i64 xch, .bool xb, .bool xk, .int .i64 xs, .string xd]) 37)
        have hyA := Blk.new Wn [.int .i64 xc, .int .i64 xch, .bool xb, .bool xk, .int .i64 xs, .string xd] 37
        have hyo := hyB.alloc (Obj.cells (List.toArray [.int .i64 xc, .int .i64 xch, .bool xb, .bool xk, .int .i64 xs, .string xd]) 37); clear hyB; have hyB := hyo; clear hyo
        obtain ⟨nA, hnA⟩ : ∃ nb, nb = Wn.heap.size := ⟨_, rfl⟩
        have hmA : W0.heap.size ≤ nA := by rw [hnA]; exact hL.size
        rw [← hnA] at hyA ⊢
        obtain ⟨Wm, hWn⟩ : ∃ Wb, Wb = Wn.alloc (Obj.cells (List.toArray [.int .i64 xc, .int .i64 xch, .bool xb, .bool xk, .int .i64 xs, .string xd]) 37) := ⟨_, rfl⟩
        rw [← hWn] at hL2 hyA hyB ⊢
        refine hKK.out _ _ ⟨HP.out.blk.below hL2 HP.out.blk.lt, HX.out.below hL2 HX.out.lt⟩ (fun hInv2 hHeld2 => ?_)
        clear hWn hnA hL
        have hL := hL2; clear hL2
        clear hKK hKB K hInv hHeld; have hInv := hInv2; have hHeld := hHeld2; clear hInv2 hHeld2
        simp only [Act.put, List.setIfInBounds_toArray, List.set_cons_zero, List.set_cons_succ]
        refine WpEnt.ready (rs := [8]) (by kernel_rfl) (by simp) ?_
        refine EachEnt.cons (some 52) rfl rfl (by decide) (by kernel_rfl) hInv (fun K hKK hKB => ?_) (EachEnt.nil)
        refine step_append_q 34 37 6 48 i0 (.agg #[.int .i64 0, .int .i64 0, .bool false, .bool false, .int .i64 0, .string ⟨#[]⟩]) rfl _ _ rfl Tryz.underlying34 hi0 hz0 rfl hz1 hz2 0 c.fv l1.frames.length _ rfl (q_below HP.out.frames hL (Nat.le_refl _)) nA 0 1 1 [.int .i64 xc, .int .i64 xch, .bool xb, .bool xk, .int .i64 xs, .string xd] rfl rfl (by intro z hz; simp at hz; rcases hz with rfl | rfl | rfl | rfl | rfl | rfl <;> rfl) (fun j z hj => by rw [Nat.zero_add]; exact (hyA.cell j).trans hj) (by omega) (by unfold maxLen; omega) (Nat.zero_le _) ?_
        intro v6 Wd hq hk hm
        obtain ⟨hPn, hTn⟩ := HP.out.pushF (q := l1.frames ++ [⟨xc, xch, xb, xk, xs, xd⟩]) hL hk hm (by simp only [List.length_append, List.length_singleton, tcRow_snoc]; exact hq)
        have hOn := hTn.out HO.out
        have hXn := HX.out.same hOn.2
        have hyo := hyB.keep hk (fun hx => by have := (q_lt HP.out.frames nB (by simpa using hx)).2; omega); clear hyB; have hyB := hyo; clear hyo
        refine hKK.out _ _ ⟨hPn.blk, hXn⟩ (fun hInv2 hHeld2 => ?_)
        clear HP HX HO hL hyA hmA hk hm hq hTn
        have HP := Lib.hid hPn; have HX := Lib.hid hXn; have HO := Lib.hid hOn.1
        clear hPn hXn hOn
        have hL : Below Wd.heap.size Wd Wd := Below.refl _ _
        clear hKK hKB K hInv hHeld; have hInv := hInv2; have hHeld := hHeld2; clear hInv2 hHeld2
        simp only [Act.put, List.setIfInBounds_toArray, List.set_cons_zero, List.set_cons_succ]
        refine WpEnt.ready (rs := [15]) (by kernel_rfl) (by simp) ?_
        refine EachEnt.cons (some 59) rfl rfl (by decide) (by kernel_rfl) hInv (fun K hKK hKB => ?_) (EachEnt.nil)
        refine step_append_q 33 9 1 16 i1 (.string ⟨#[]⟩) rfl _ _ rfl Tryz.underlying33 hi1 hw0 rfl hw1 hw2 0 c.uv l1.units.length _ rfl (q_below HP.out.units hL (Nat.le_refl _)) nB 0 1 1 [.string u] rfl rfl (by intro z hz; simp at hz; subst hz; rfl) (fun j z hj => by rw [Nat.zero_add]; exact (hyB.cell j).trans hj) (by omega) (by unfold maxLen; omega) (Nat.zero_le _) ?_
        intro v7 We hq hk hm
        obtain ⟨hPn, hTn⟩ := HP.out.pushU (q := l1.units ++ [u]) hL hk hm (by simp only [List.length_append, List.length_singleton, stRow_snoc]; exact hq)
        have hOn := hTn.out HO.out
        have hXn := HX.out.same hOn.2
        refine hKK.out _ _ ⟨hPn.blk, hXn⟩ (fun hInv2 hHeld2 => ?_)
        clear HP HX HO hL hyB hmB hk hm hq hTn
        have HP := Lib.hid hPn; have HX := Lib.hid hXn; have HO := Lib.hid hOn.1
        clear hPn hXn hOn
        clear hKK hKB K hInv hHeld; have hInv := hInv2; have hHeld := hHeld2; clear hInv2 hHeld2
        simp only [Act.put, List.setIfInBounds_toArray, List.set_cons_zero, List.set_cons_succ]
        refine WpEnt.take 1 (i := 16) (some 60) (v := ?_) rfl rfl (by kernel_rfl) (by kernel_rfl) (by kernel_rfl) (fun _ _ _ h => h) (by kernel_rfl) hInv (by assumption) (by rfl) ?_ (fun hInv2 => ?_)
        rotate_left
        · (intro w hSw; (try dsimp only at hSw); obtain ⟨s6, s7, s0, s1, s2, s3, s4, s5⟩ := x0 _ hSw; go_simp; (try with_reducible rfl))
        clear hInv; have hInv := hInv2; clear hInv2
        simp only [Act.put, List.setIfInBounds_toArray, List.set_cons_zero, List.set_cons_succ]
        refine WpEnt.take 1 (i := 17) (some 61) (v := ?_) rfl rfl (by kernel_rfl) (by kernel_rfl) (by kernel_rfl) (fun _ _ _ h => h) (by kernel_rfl) hInv (by assumption) (by rfl) ?_ (fun hInv2 => ?_)
        rotate_left
        · (intro w hSw; (try dsimp only at hSw); obtain ⟨s6, s7, s0, s1, s2, s3, s4, s5⟩ := x0 _ hSw; go_simp; (try with_reducible rfl))
        clear hInv; have hInv := hInv2; clear hInv2
        simp only [Act.put, List.setIfInBounds_toArray, List.set_cons_zero, List.set_cons_succ]
        refine WpEnt.ready (rs := [18]) (by kernel_rfl) (by simp) ?_
        refine EachEnt.past rfl (by kernel_rfl) (fun K hKK => ?_)
        obtain ⟨fa, fc, hfv⟩ := qform HP.out.frames
        obtain ⟨ua, uc, huv⟩ := qform HP.out.units
        simp only [List.length_append, List.length_singleton] at hfv huv
        subst hfv huv
        have c6 := HP.out.blk.cell 6; have f6 := HP.out.blk.free 6
        simp only [lkCells, List.cons_append, List.nil_append, List.getElem?_cons_zero, List.getElem?_cons_succ] at c6
        have hPp := HP.out.poke 6 (.slice fa (l1.frames.length + 1) fc)
        have hTp := LkTo.poke (W := We) (c := { c with fv := .slice fa (l1.frames.length + 1) fc, uv := .slice ua (l1.units.length + 1) uc }) 6 (.slice fa (l1.frames.length + 1) fc)
        have hOp := hTp.out HO.out
        have hXp := HX.out.same hOp.2
        go_simp
        refine hKK.out _ _ ?_
        clear hKK K c6 f6 HP HX HO hTp hInv hHeld
        generalize We.setCell ⟨c.L, 6, none⟩ (.slice fa (l1.frames.length + 1) fc) = Wf at hPp hXp hOp ⊢
        have HP := Lib.hid hPp; have HX := Lib.hid hXp; have HO := Lib.hid hOp.1
        clear hPp hXp hOp
        have c7 := HP.out.blk.cell 7; have f7 := HP.out.blk.free 7
        simp only [lkCells, List.cons_append, List.nil_append, List.set_cons_zero, List.set_cons_succ, List.getElem?_cons_zero, List.getElem?_cons_succ] at c7
        refine WpEnt.ready (rs := [19]) (by kernel_rfl) (by simp) ?_
        refine EachEnt.past rfl (by kernel_rfl) (fun K hKK => ?_)
        go_simp
        refine hKK.out _ _ ?_
        clear hKK K
        try simp only [Act.put, List.setIfInBounds_toArray, List.set_cons_zero, List.set_cons_succ]
        refine WpEnt.ready (rs := [20]) (by kernel_rfl) (by simp) ?_
        refine EachEnt.past rfl (by kernel_rfl) (fun K hKK => ?_)
        go_simp
        refine hKK.out _ _ ?_
        clear hKK K
        try simp only [Act.put, List.setIfInBounds_toArray, List.set_cons_zero, List.set_cons_succ]
        refine WpEnt.ready (rs := [21]) (by kernel_rfl) (by simp) ?_
        refine EachEnt.past rfl (by kernel_rfl) (fun K hKK => ?_)
        go_simp
        refine hKK.out _ _ ?_
        clear hKK K
        have hPp := HP.out.poke 7 (.slice ua (l1.units.length + 1) uc)
        have hTp := LkTo.poke (W := Wf) (c := { c with fv := .slice fa (l1.frames.length + 1) fc, uv := .slice ua (l1.units.length + 1) uc }) 7 (.slice ua (l1.units.length + 1) uc)
        have hOp := hTp.out HO.out
        have hXp := HX.out.same hOp.2
        refine WpEnt.done (by kernel_rfl) ?_ _
        refine post_any (fun W' => ∃ c' : Lc, c'.L = c.L ∧ LkM w W' c' (lkCells c' { l1 with frames := l1.frames ++ [⟨xc, xch, xb, xk, xs, xd⟩], units := l1.units ++ [u] }) { l1 with frames := l1.frames ++ [⟨xc, xch, xb, xk, xs, xd⟩], units := l1.units ++ [u] } ∧ OutC c' W' r ∧ Blk W' r [.int .i64 xc, .int .i64 xch, .bool xb, .bool xk, .int .i64 xs, .string xd] 37) ⟨{ c with fv := .slice fa (l1.frames.length + 1) fc, uv := .slice ua (l1.units.length + 1) uc }, rfl, hPp, hOp.1, hXp⟩ ?_
        clear hPp hTp hOp hXp HP HX HO c7 f7 x0
        rintro W3 ⟨c', hcL, hP, hO, hX⟩
        go_wp2_with fail
        go_meet
        exact ⟨c', hcL, hP, hO, hX⟩
    case rest =>
      obtain ⟨c', hcL, hP, hO, hX⟩ := hcut
      clear HP HX HO
      have HP := Lib.hid hP; have HO := Lib.hid hO; have HX := Lib.hid hX
      clear hP hO hX
      cases twice
      · have e : l3 = { l1 with frames := l1.frames ++ [⟨xc, xch, xb, xk, xs, xd⟩], units := l1.units ++ [u] } := by rw [HL3.out]; simp
        have HE := Lib.hid e
        clear e
        go_wp2_with fail
        go_ret
        refine ⟨rfl, c', hcL, ?_⟩
        rw [HE.out]
        exact HP.out
      · go_upto_region 12 with fail
        obtain ⟨l2, hl2⟩ : ∃ l2 : Ls, l2 = { l1 with frames := l1.frames ++ [⟨xc, xch, xb, xk, xs, xd⟩], units := l1.units ++ [u] } := ⟨_, rfl⟩
        have hlf2 : l2.frames.length ≤ 1000001 := by rw [hl2]; simp; omega
        have hlu2 : l2.units.length ≤ 1000001 := by rw [hl2]; simp; omega
        rw [← hl2] at HP
        have e : l3 = { l2 with frames := l2.frames ++ [⟨xc, xch, xb, xk, xs, xd⟩], units := l2.units ++ [u] } := by rw [HL3.out, hl2]; simp
        have HE := Lib.hid e
        clear e hl2 hlf hlu
        rw [← hcL]
        have HCL := Lib.hid hcL
        clear hcL
        obtain ⟨c2, hc2⟩ : ∃ c2 : Lc, c2 = c' := ⟨_, rfl⟩
        subst hc2
        obtain ⟨i0, hi0, hz0, hz1, hz2⟩ := info_parts info_tc
        obtain ⟨i1, hi1, hw0, hw1, hw2⟩ := info_parts info_s1
        have x0 : ∀ W', RdL c2.L r (lkCells c2 l2) [.int .i64 xc, .int .i64 xch, .bool xb, .bool xk, .int .i64 xs, .string xd] W' → W'.cell? ⟨c2.L, 6, none⟩ = some c2.fv ∧ W'.cell? ⟨c2.L, 7, none⟩ = some c2.uv ∧ W'.cell? ⟨r, 0, none⟩ = some (.int .i64 xc) ∧ W'.cell? ⟨r, 1, none⟩ = some (.int .i64 xch) ∧ W'.cell? ⟨r, 2, none⟩ = some (.bool xb) ∧ W'.cell? ⟨r, 3, none⟩ = some (.bool xk) ∧ W'.cell? ⟨r, 4, none⟩ = some (.int .i64 xs) ∧ W'.cell? ⟨r, 5, none⟩ = some (.string xd) := fun W' hk => ⟨hk.1.cell 6, hk.1.cell 7, hk.2.cell 0, hk.2.cell 1, hk.2.cell 2, hk.2.cell 3, hk.2.cell 4, hk.2.cell 5⟩
        refine region_ent (RdL c2.L r (lkCells c2 l2) [.int .i64 xc, .int .i64 xch, .bool xb, .bool xk, .int .i64 xs, .string xd]) 18 (by kernel_rfl) ⟨HP.out.blk.drew, HX.out.drew⟩ (fun hInv hHeld => ?_)
        have hPd := HP.out.drew; have hXd := HX.out.drew; have hOd : OutC c2 wc.drew r := HO.out
        generalize wc.drew = Y0 at hPd hXd hOd hHeld ⊢
        clear HP HX HO
        have HP := Lib.hid hPd; have HX := Lib.hid hXd; have HO := Lib.hid hOd
        clear hPd hXd hOd
        have hL : Below Y0.heap.size Y0 Y0 := Below.refl _ _
        refine WpEnt.takeP (i := 1) (some 70) (v := ?_) rfl rfl (by kernel_rfl) (by kernel_rfl) (by kernel_rfl) (fun _ _ _ h => h) (by decide) hInv (by assumption) (by rfl) ?_ (fun hInv2 => ?_)
        rotate_left
        · (intro w; go_simp; (try with_reducible rfl))
        clear hInv; have hInv := hInv2; clear hInv2
        simp only [Act.put, List.setIfInBounds_toArray, List.set_cons_zero, List.set_cons_succ]
        refine WpEnt.take 1 (i := 0) (some 69) (v := ?_) rfl rfl (by kernel_rfl) (by kernel_rfl) (by kernel_rfl) (fun _ _ _ h => h) (by kernel_rfl) hInv (by assumption) (by rfl) ?_ (fun hInv2 => ?_)
        rotate_left
        · (intro w hSw; (try dsimp only at hSw); obtain ⟨s6, s7, s0, s1, s2, s3, s4, s5⟩ := x0 _ hSw; go_simp; (try with_reducible rfl))
        clear hInv; have hInv := hInv2; clear hInv2
        simp only [Act.put, List.setIfInBounds_toArray, List.set_cons_zero, List.set_cons_succ]
        refine WpEnt.take 1 (i := 2) (some 71) (v := ?_) rfl rfl (by kernel_rfl) (by kernel_rfl) (by kernel_rfl) (fun _ _ _ h => h) (by kernel_rfl) hInv (by assumption) (by rfl) ?_ (fun hInv2 => ?_)
        rotate_left
        · (intro w hSw; (try dsimp only at hSw); obtain ⟨s6, s7, s0, s1, s2, s3, s4, s5⟩ := x0 _ hSw; go_simp; (try with_reducible rfl))
        clear hInv; have hInv := hInv2; clear hInv2
        simp only [Act.put, List.setIfInBounds_toArray, List.set_cons_zero, List.set_cons_succ]
        refine WpEnt.take 1 (i := 3) (some 72) (v := ?_) rfl rfl (by kernel_rfl) (by kernel_rfl) (by kernel_rfl) (fun _ _ _ h => h) (by kernel_rfl) hInv (by assumption) (by rfl) ?_ (fun hInv2 => ?_)
        rotate_left
        · (intro w hSw; (try dsimp only at hSw); obtain ⟨s6, s7, s0, s1, s2, s3, s4, s5⟩ := x0 _ hSw; go_simp; (try with_reducible rfl))
        clear hInv; have hInv := hInv2; clear hInv2
        simp only [Act.put, List.setIfInBounds_toArray, List.set_cons_zero, List.set_cons_succ]
        refine WpEnt.take 1 (i := 4) (some 73) (v := ?_) rfl rfl (by kernel_rfl) (by kernel_rfl) (by kernel_rfl) (fun _ _ _ h => h) (by kernel_rfl) hInv (by assumption) (by rfl) ?_ (fun hInv2 => ?_)
        rotate_left
        · (intro w hSw; (try dsimp only at hSw); obtain ⟨s6, s7, s0, s1, s2, s3, s4, s5⟩ := x0 _ hSw; go_simp; (try with_reducible rfl))
        clear hInv; have hInv := hInv2; clear hInv2
        simp only [Act.put, List.setIfInBounds_toArray, List.set_cons_zero, List.set_cons_succ]
        refine WpEnt.take 1 (i := 5) (some 74) (v := ?_) rfl rfl (by kernel_rfl) (by kernel_rfl) (by kernel_rfl) (fun _ _ _ h => h) (by kernel_rfl) hInv (by assumption) (by rfl) ?_ (fun hInv2 => ?_)
        rotate_left
        · (intro w hSw; (try dsimp only at hSw); obtain ⟨s6, s7, s0, s1, s2, s3, s4, s5⟩ := x0 _ hSw; go_simp; (try with_reducible rfl))
        clear hInv; have hInv := hInv2; clear hInv2
        simp only [Act.put, List.setIfInBounds_toArray, List.set_cons_zero, List.set_cons_succ]
        refine WpEnt.take 1 (i := 6) (some 75) (v := ?_) rfl rfl (by kernel_rfl) (by kernel_rfl) (by kernel_rfl) (fun _ _ _ h => h) (by kernel_rfl) hInv (by assumption) (by rfl) ?_ (fun hInv2 => ?_)
        rotate_left
        · (intro w hSw; (try dsimp only at hSw); obtain ⟨s6, s7, s0, s1, s2, s3, s4, s5⟩ := x0 _ hSw; go_simp; (try with_reducible rfl))
        clear hInv; have hInv := hInv2; clear hInv2
        simp only [Act.put, List.setIfInBounds_toArray, List.set_cons_zero, List.set_cons_succ]
        refine WpEnt.take 1 (i := 9) (some 78) (v := ?_) rfl rfl (by kernel_rfl) (by kernel_rfl) (by kernel_rfl) (fun _ _ _ h => h) (by kernel_rfl) hInv (by assumption) (by rfl) ?_ (fun hInv2 => ?_)
        rotate_left
        · (intro w hSw; (try dsimp only at hSw); obtain ⟨s6, s7, s0, s1, s2, s3, s4, s5⟩ := x0 _ hSw; go_simp; (try with_reducible rfl))
        clear hInv; have hInv := hInv2; clear hInv2
        simp only [Act.put, List.setIfInBounds_toArray, List.set_cons_zero, List.set_cons_succ]
        refine WpEnt.take 1 (i := 10) (some 79) (v := ?_) rfl rfl (by kernel_rfl) (by kernel_rfl) (by kernel_rfl) (fun _ _ _ h => h) (by kernel_rfl) hInv (by assumption) (by rfl) ?_ (fun hInv2 => ?_)
        rotate_left
        · (intro w hSw; (try dsimp only at hSw); obtain ⟨s6, s7, s0, s1, s2, s3, s4, s5⟩ := x0 _ hSw; go_simp; (try with_reducible rfl))
        clear hInv; have hInv := hInv2; clear hInv2
        simp only [Act.put, List.setIfInBounds_toArray, List.set_cons_zero, List.set_cons_succ]
        refine WpEnt.take 1 (i := 11) (some 80) (v := ?_) rfl rfl (by kernel_rfl) (by kernel_rfl) (by kernel_rfl) (fun _ _ _ h => h) (by kernel_rfl) hInv (by assumption) (by rfl) ?_ (fun hInv2 => ?_)
        rotate_left
        · (intro w hSw; (try dsimp only at hSw); obtain ⟨s6, s7, s0, s1, s2, s3, s4, s5⟩ := x0 _ hSw; go_simp; (try with_reducible rfl))
        clear hInv; have hInv := hInv2; clear hInv2
        simp only [Act.put, List.setIfInBounds_toArray, List.set_cons_zero, List.set_cons_succ]
        refine WpEnt.take 1 (i := 12) (some 81) (v := ?_) rfl rfl (by kernel_rfl) (by kernel_rfl) (by kernel_rfl) (fun _ _ _ h => h) (by kernel_rfl) hInv (by assumption) (by rfl) ?_ (fun hInv2 => ?_)
        rotate_left
        · (intro w hSw; (try dsimp only at hSw); obtain ⟨s6, s7, s0, s1, s2, s3, s4, s5⟩ := x0 _ hSw; go_simp; (try with_reducible rfl))
        clear hInv; have hInv := hInv2; clear hInv2
        simp only [Act.put, List.setIfInBounds_toArray, List.set_cons_zero, List.set_cons_succ]
        refine WpEnt.take 1 (i := 13) (some 82) (v := ?_) rfl rfl (by kernel_rfl) (by kernel_rfl) (by kernel_rfl) (fun _ _ _ h => h) (by kernel_rfl) hInv (by assumption) (by rfl) ?_ (fun hInv2 => ?_)
        rotate_left
        · (intro w hSw; (try dsimp only at hSw); obtain ⟨s6, s7, s0, s1, s2, s3, s4, s5⟩ := x0 _ hSw; go_simp; (try with_reducible rfl))
        clear hInv; have hInv := hInv2; clear hInv2
        simp only [Act.put, List.setIfInBounds_toArray, List.set_cons_zero, List.set_cons_succ]
        refine WpEnt.ready (rs := [7, 14]) (by kernel_rfl) (by simp) ?_
        refine EachEnt.cons (some 76) rfl rfl (by decide) (by kernel_rfl) hInv (fun K hKK hKB => ?_) (EachEnt.cons (some 83) rfl rfl (by decide) (by kernel_rfl) hInv (fun K hKK hKB => ?_) EachEnt.nil)
        · refine step_build_1 34 37 [.int .i64 xc, .int .i64 xch, .bool xb, .bool xk, .int .i64 xs, .string xd] rfl _ rfl _ rfl (build_tc _ ⟨xc, xch, xb, xk, xs, xd⟩) ?_
          have hL2 := hL.alloc hL.size (Obj.cells (List.toArray [.int .i64 xc, .int .i64 xch, .bool xb, .bool xk, .int .i64 xs, .string xd]) 37)
          have hyA := Blk.new Y0 [.int .i64 xc, .int .i64 xch, .bool xb, .bool xk, .int .i64 xs, .string xd] 37
          obtain ⟨nA, hnA⟩ : ∃ nb, nb = Y0.heap.size := ⟨_, rfl⟩
          have hmA : Y0.heap.size ≤ nA := by rw [hnA]; exact hL.size
          rw [← hnA] at hyA ⊢
          obtain ⟨Yn, hYn⟩ : ∃ Wb, Wb = Y0.alloc (Obj.cells (List.toArray [.int .i64 xc, .int .i64 xch, .bool xb, .bool xk, .int .i64 xs, .string xd]) 37) := ⟨_, rfl⟩
          rw [← hYn] at hL2 hyA ⊢
          refine hKK.out _ _ ⟨HP.out.blk.below hL2 HP.out.blk.lt, HX.out.below hL2 HX.out.lt⟩ (fun hInv2 hHeld2 => ?_)
          clear hYn hnA hL
          have hL := hL2; clear hL2
          clear hKK hKB K hInv hHeld; have hInv := hInv2; have hHeld := hHeld2; clear hInv2 hHeld2
          simp only [Act.put, List.setIfInBounds_toArray, List.set_cons_zero, List.set_cons_succ]
          refine WpEnt.ready (rs := [8, 14]) (by kernel_rfl) (by simp) ?_
          refine EachEnt.cons (some 77) rfl rfl (by decide) (by kernel_rfl) hInv (fun K hKK hKB => ?_) (EachEnt.cons (some 83) rfl rfl (by decide) (by kernel_rfl) hInv (fun K hKK hKB => ?_) EachEnt.nil)
          · refine step_append_q 34 37 6 48 i0 (.agg #[.int .i64 0, .int .i64 0, .bool false, .bool false, .int .i64 0, .string ⟨#[]⟩]) rfl _ _ rfl Tryz.underlying34 hi0 hz0 rfl hz1 hz2 0 c2.fv l2.frames.length _ rfl (q_below HP.out.frames hL (Nat.le_refl _)) nA 0 1 1 [.int .i64 xc, .int .i64 xch, .bool xb, .bool xk, .int .i64 xs, .string xd] rfl rfl (by intro z hz; simp at hz; rcases hz with rfl | rfl | rfl | rfl | rfl | rfl <;> rfl) (fun j z hj => by rw [Nat.zero_add]; exact (hyA.cell j).trans hj) (by omega) (by unfold maxLen; omega) (Nat.zero_le _) ?_
            intro v6 Yd hq hk hm
            obtain ⟨hPn, hTn⟩ := HP.out.pushF (q := l2.frames ++ [⟨xc, xch, xb, xk, xs, xd⟩]) hL hk hm (by simp only [List.length_append, List.length_singleton, tcRow_snoc]; exact hq)
            have hOn := hTn.out HO.out
            have hXn := HX.out.same hOn.2
            refine hKK.out _ _ ⟨hPn.blk, hXn⟩ (fun hInv2 hHeld2 => ?_)
            clear HP HX HO hL hyA hmA hk hm hq hTn
            have HP := Lib.hid hPn; have HX := Lib.hid hXn; have HO := Lib.hid hOn.1
            clear hPn hXn hOn
            have hL : Below Yd.heap.size Yd Yd := Below.refl _ _
            clear hKK hKB K hInv hHeld; have hInv := hInv2; have hHeld := hHeld2; clear hInv2 hHeld2
            simp only [Act.put, List.setIfInBounds_toArray, List.set_cons_zero, List.set_cons_succ]
            refine WpEnt.ready (rs := [14]) (by kernel_rfl) (by simp) ?_
            refine EachEnt.cons (some 83) rfl rfl (by decide) (by kernel_rfl) hInv (fun K hKK hKB => ?_) (EachEnt.nil)
            refine step_build_1 33 9 [.string u] rfl _ rfl _ rfl (build_str _ u) ?_
            have hL2 := hL.alloc hL.size (Obj.cells (List.toArray [.string u]) 9)
            have hyB := Blk.new Yd [.string u] 9
            obtain ⟨nB, hnB⟩ : ∃ nb, nb = Yd.heap.size := ⟨_, rfl⟩
            have hmB : Yd.heap.size ≤ nB := by rw [hnB]; exact hL.size
            rw [← hnB] at hyB ⊢
            obtain ⟨Yn, hYn⟩ : ∃ Wb, Wb = Yd.alloc (Obj.cells (List.toArray [.string u]) 9) := ⟨_, rfl⟩
            rw [← hYn] at hL2 hyB ⊢
            refine hKK.out _ _ ⟨HP.out.blk.below hL2 HP.out.blk.lt, HX.out.below hL2 HX.out.lt⟩ (fun hInv2 hHeld2 => ?_)
            clear hYn hnB hL
            have hL := hL2; clear hL2
            clear hKK hKB K hInv hHeld; have hInv := hInv2; have hHeld := hHeld2; clear hInv2 hHeld2
            simp only [Act.put, List.setIfInBounds_toArray, List.set_cons_zero, List.set_cons_succ]
            refine WpEnt.ready (rs := [15]) (by kernel_rfl) (by simp) ?_
            refine EachEnt.cons (some 84) rfl rfl (by decide) (by kernel_rfl) hInv (fun K hKK hKB => ?_) (EachEnt.nil)
            refine step_append_q 33 9 1 16 i1 (.string ⟨#[]⟩) rfl _ _ rfl Tryz.underlying33 hi1 hw0 rfl hw1 hw2 0 c2.uv l2.units.length _ rfl (q_below HP.out.units hL (Nat.le_refl _)) nB 0 1 1 [.string u] rfl rfl (by intro z hz; simp at hz; subst hz; rfl) (fun j z hj => by rw [Nat.zero_add]; exact (hyB.cell j).trans hj) (by omega) (by unfold maxLen; omega) (Nat.zero_le _) ?_
            intro v7 Ye hq hk hm
            obtain ⟨hPn, hTn⟩ := HP.out.pushU (q := l2.units ++ [u]) hL hk hm (by simp only [List.length_append, List.length_singleton, stRow_snoc]; exact hq)
            have hOn := hTn.out HO.out
            have hXn := HX.out.same hOn.2
            refine hKK.out _ _ ⟨hPn.blk, hXn⟩ (fun hInv2 hHeld2 => ?_)
            clear HP HX HO hL hyB hmB hk hm hq hTn
            have HP := Lib.hid hPn; have HX := Lib.hid hXn; have HO := Lib.hid hOn.1
            clear hPn hXn hOn
            clear hKK hKB K hInv hHeld; have hInv := hInv2; have hHeld := hHeld2; clear hInv2 hHeld2
            simp only [Act.put, List.setIfInBounds_toArray, List.set_cons_zero, List.set_cons_succ]
            refine WpEnt.take 1 (i := 16) (some 85) (v := ?_) rfl rfl (by kernel_rfl) (by kernel_rfl) (by kernel_rfl) (fun _ _ _ h => h) (by kernel_rfl) hInv (by assumption) (by rfl) ?_ (fun hInv2 => ?_)
            rotate_left
            · (intro w hSw; (try dsimp only at hSw); obtain ⟨s6, s7, s0, s1, s2, s3, s4, s5⟩ := x0 _ hSw; go_simp; (try with_reducible rfl))
            clear hInv; have hInv := hInv2; clear hInv2
            simp only [Act.put, List.setIfInBounds_toArray, List.set_cons_zero, List.set_cons_succ]
            refine WpEnt.take 1 (i := 17) (some 86) (v := ?_) rfl rfl (by kernel_rfl) (by kernel_rfl) (by kernel_rfl) (fun _ _ _ h => h) (by kernel_rfl) hInv (by assumption) (by rfl) ?_ (fun hInv2 => ?_)
            rotate_left
            · (intro w hSw; (try dsimp only at hSw); obtain ⟨s6, s7, s0, s1, s2, s3, s4, s5⟩ := x0 _ hSw; go_simp; (try with_reducible rfl))
            clear hInv; have hInv := hInv2; clear hInv2
            simp only [Act.put, List.setIfInBounds_toArray, List.set_cons_zero, List.set_cons_succ]
            refine WpEnt.ready (rs := [18]) (by kernel_rfl) (by simp) ?_
            refine EachEnt.past rfl (by kernel_rfl) (fun K hKK => ?_)
            obtain ⟨fa, fc, hfv⟩ := qform HP.out.frames
            obtain ⟨ua, uc, huv⟩ := qform HP.out.units
            simp only [List.length_append, List.length_singleton] at hfv huv
            subst hfv huv
            have c6 := HP.out.blk.cell 6; have f6 := HP.out.blk.free 6
            simp only [lkCells, List.cons_append, List.nil_append, List.getElem?_cons_zero, List.getElem?_cons_succ] at c6
            have hPp := HP.out.poke 6 (.slice fa (l2.frames.length + 1) fc)
            have hTp := LkTo.poke (W := Ye) (c := { c2 with fv := .slice fa (l2.frames.length + 1) fc, uv := .slice ua (l2.units.length + 1) uc }) 6 (.slice fa (l2.frames.length + 1) fc)
            have hOp := hTp.out HO.out
            have hXp := HX.out.same hOp.2
            go_simp
            refine hKK.out _ _ ?_
            clear hKK K c6 f6 HP HX HO hTp hInv hHeld
            generalize Ye.setCell ⟨c2.L, 6, none⟩ (.slice fa (l2.frames.length + 1) fc) = Yf at hPp hXp hOp ⊢
            have HP := Lib.hid hPp; have HX := Lib.hid hXp; have HO := Lib.hid hOp.1
            clear hPp hXp hOp
            have c7 := HP.out.blk.cell 7; have f7 := HP.out.blk.free 7
            simp only [lkCells, List.cons_append, List.nil_append, List.set_cons_zero, List.set_cons_succ, List.getElem?_cons_zero, List.getElem?_cons_succ] at c7
            refine WpEnt.ready (rs := [19]) (by kernel_rfl) (by simp) ?_
            refine EachEnt.past rfl (by kernel_rfl) (fun K hKK => ?_)
            go_simp
            refine hKK.out _ _ ?_
            clear hKK K
            try simp only [Act.put, List.setIfInBounds_toArray, List.set_cons_zero, List.set_cons_succ]
            refine WpEnt.ready (rs := [20]) (by kernel_rfl) (by simp) ?_
            refine EachEnt.past rfl (by kernel_rfl) (fun K hKK => ?_)
            go_simp
            refine hKK.out _ _ ?_
            clear hKK K
            try simp only [Act.put, List.setIfInBounds_toArray, List.set_cons_zero, List.set_cons_succ]
            refine WpEnt.ready (rs := [21]) (by kernel_rfl) (by simp) ?_
            refine EachEnt.past rfl (by kernel_rfl) (fun K hKK => ?_)
            go_simp
            refine hKK.out _ _ ?_
            clear hKK K
            have hPp := HP.out.poke 7 (.slice ua (l2.units.length + 1) uc)
            have hTp := LkTo.poke (W := Yf) (c := { c2 with fv := .slice fa (l2.frames.length + 1) fc, uv := .slice ua (l2.units.length + 1) uc }) 7 (.slice ua (l2.units.length + 1) uc)
            have hOp := hTp.out HO.out
            have hXp := HX.out.same hOp.2
            refine WpEnt.done (by kernel_rfl) ?_ _
            refine post_any (fun W' => ∃ c' : Lc, c'.L = c2.L ∧ LkM w W' c' (lkCells c' { l2 with frames := l2.frames ++ [⟨xc, xch, xb, xk, xs, xd⟩], units := l2.units ++ [u] }) { l2 with frames := l2.frames ++ [⟨xc, xch, xb, xk, xs, xd⟩], units := l2.units ++ [u] } ∧ OutC c' W' r ∧ Blk W' r [.int .i64 xc, .int .i64 xch, .bool xb, .bool xk, .int .i64 xs, .string xd] 37) ⟨{ c2 with fv := .slice fa (l2.frames.length + 1) fc, uv := .slice ua (l2.units.length + 1) uc }, rfl, hPp, hOp.1, hXp⟩ ?_
            clear hPp hTp hOp hXp HP HX HO c7 f7 x0
            rintro Y3 ⟨c3, hcL3, hP, hO, hX⟩
            have HP := Lib.hid hP; have HCL3 := Lib.hid hcL3
            clear hP hO hX hcL3
            go_wp2_with fail
            go_ret
            refine ⟨rfl, c3, HCL3.out.trans HCL.out, ?_⟩
            rw [HE.out]
            exact HP.out
          · refine step_build_1 33 9 [.string u] rfl _ rfl _ rfl (build_str _ u) ?_
            have hL2 := hL.alloc hL.size (Obj.cells (List.toArray [.string u]) 9)
            have hyB := Blk.new Yn [.string u] 9
            have hyo := hyA.alloc (Obj.cells (List.toArray [.string u]) 9); clear hyA; have hyA := hyo; clear hyo
            obtain ⟨nB, hnB⟩ : ∃ nb, nb = Yn.heap.size := ⟨_, rfl⟩
            have hmB : Y0.heap.size ≤ nB := by rw [hnB]; exact hL.size
            rw [← hnB] at hyB ⊢
            obtain ⟨Ym, hYn⟩ : ∃ Wb, Wb = Yn.alloc (Obj.cells (List.toArray [.string u]) 9) := ⟨_, rfl⟩
            rw [← hYn] at hL2 hyB hyA ⊢
            refine hKK.out _ _ ⟨HP.out.blk.below hL2 HP.out.blk.lt, HX.out.below hL2 HX.out.lt⟩ (fun hInv2 hHeld2 => ?_)
            clear hYn hnB hL
            have hL := hL2; clear hL2
            clear hKK hKB K hInv hHeld; have hInv := hInv2; have hHeld := hHeld2; clear hInv2 hHeld2
            simp only [Act.put, List.setIfInBounds_toArray, List.set_cons_zero, List.set_cons_succ]
            refine WpEnt.ready (rs := [8]) (by kernel_rfl) (by simp) ?_
            refine EachEnt.cons (some 77) rfl rfl (by decide) (by kernel_rfl) hInv (fun K hKK hKB => ?_) (EachEnt.nil)
            refine step_append_q 34 37 6 48 i0 (.agg #[.int .i64 0, .int .i64 0, .bool false, .bool false, .int .i64 0, .string ⟨#[]⟩]) rfl _ _ rfl Tryz.underlying34 hi0 hz0 rfl hz1 hz2 0 c2.fv l2.frames.length _ rfl (q_below HP.out.frames hL (Nat.le_refl _)) nA 0 1 1 [.int .i64 xc, .int .i64 xch, .bool xb, .bool xk, .int .i64 xs, .string xd] rfl rfl (by intro z hz; simp at hz; rcases hz with rfl | rfl | rfl | rfl | rfl | rfl <;> rfl) (fun j z hj => by rw [Nat.zero_add]; exact (hyA.cell j).trans hj) (by omega) (by unfold maxLen; omega) (Nat.zero_le _) ?_
            intro v6 Yd hq hk hm
            obtain ⟨hPn, hTn⟩ := HP.out.pushF (q := l2.frames ++ [⟨xc, xch, xb, xk, xs, xd⟩]) hL hk hm (by simp only [List.length_append, List.length_singleton, tcRow_snoc]; exact hq)
            have hOn := hTn.out HO.out
            have hXn := HX.out.same hOn.2
            have hyo := hyB.keep hk (fun hx => by have := (q_lt HP.out.frames nB (by simpa using hx)).2; omega); clear hyB; have hyB := hyo; clear hyo
            refine hKK.out _ _ ⟨hPn.blk, hXn⟩ (fun hInv2 hHeld2 => ?_)
            clear HP HX HO hL hyA hmA hk hm hq hTn
            have HP := Lib.hid hPn; have HX := Lib.hid hXn; have HO := Lib.hid hOn.1
            clear hPn hXn hOn
            have hL : Below Yd.heap.size Yd Yd := Below.refl _ _
            clear hKK hKB K hInv hHeld; have hInv := hInv2; have hHeld := hHeld2; clear hInv2 hHeld2
            simp only [Act.put, List.setIfInBounds_toArray, List.set_cons_zero, List.set_cons_succ]
            refine WpEnt.ready (rs := [15]) (by kernel_rfl) (by simp) ?_
            refine EachEnt.cons (some 84) rfl rfl (by decide) (by kernel_rfl) hInv (fun K hKK hKB => ?_) (EachEnt.nil)
            refine step_append_q 33 9 1 16 i1 (.string ⟨#[]⟩) rfl _ _ rfl Tryz.underlying33 hi1 hw0 rfl hw1 hw2 0 c2.uv l2.units.length _ rfl (q_below HP.out.units hL (Nat.le_refl _)) nB 0 1 1 [.string u] rfl rfl (by intro z hz; simp at hz; subst hz; rfl) (fun j z hj => by rw [Nat.zero_add]; exact (hyB.cell j).trans hj) (by omega) (by unfold maxLen; omega) (Nat.zero_le _) ?_
            intro v7 Ye hq hk hm
            obtain ⟨hPn, hTn⟩ := HP.out.pushU (q := l2.units ++ [u]) hL hk hm (by simp only [List.length_append, List.length_singleton, stRow_snoc]; exact hq)
            have hOn := hTn.out HO.out
            have hXn := HX.out.same hOn.2
            refine hKK.out _ _ ⟨hPn.blk, hXn⟩ (fun hInv2 hHeld2 => ?_)
            clear HP HX HO hL hyB hmB hk hm hq hTn
            have HP := Lib.hid hPn; have HX := Lib.hid hXn; have HO := Lib.hid hOn.1
            clear hPn hXn hOn
            clear hKK hKB K hInv hHeld; have hInv := hInv2; have hHeld := hHeld2; clear hInv2 hHeld2
            simp only [Act.put, List.setIfInBounds_toArray, List.set_cons_zero, List.set_cons_succ]
            refine WpEnt.take 1 (i := 16) (some 85) (v := ?_) rfl rfl (by kernel_rfl) (by kernel_rfl) (by kernel_rfl) (fun _ _ _ h => h) (by kernel_rfl) hInv (by assumption) (by rfl) ?_ (fun hInv2 => ?_)
            rotate_left
            · (intro w hSw; (try dsimp only at hSw); obtain ⟨s6, s7, s0, s1, s2, s3, s4, s5⟩ := x0 _ hSw; go_simp; (try with_reducible rfl))
            clear hInv; have hInv := hInv2; clear hInv2
            simp only [Act.put, List.setIfInBounds_toArray, List.set_cons_zero, List.set_cons_succ]
            refine WpEnt.take 1 (i := 17) (some 86) (v := ?_) rfl rfl (by kernel_rfl) (by kernel_rfl) (by kernel_rfl) (fun _ _ _ h => h) (by kernel_rfl) hInv (by assumption) (by rfl) ?_ (fun hInv2 => ?_)
            rotate_left
            · (intro w hSw; (try dsimp only at hSw); obtain ⟨s6, s7, s0, s1, s2, s3, s4, s5⟩ := x0 _ hSw; go_simp; (try with_reducible rfl))
            clear hInv; have hInv := hInv2; clear hInv2
            simp only [Act.put, List.setIfInBounds_toArray, List.set_cons_zero, List.set_cons_succ]
            refine WpEnt.ready (rs := [18]) (by kernel_rfl) (by simp) ?_
            refine EachEnt.past rfl (by kernel_rfl) (fun K hKK => ?_)
            obtain ⟨fa, fc, hfv⟩ := qform HP.out.frames
            obtain ⟨ua, uc, huv⟩ := qform HP.out.units
            simp only [List.length_append, List.length_singleton] at hfv huv
            subst hfv huv
            have c6 := HP.out.blk.cell 6; have f6 := HP.out.blk.free 6
            simp only [lkCells, List.cons_append, List.nil_append, List.getElem?_cons_zero, List.getElem?_cons_succ] at c6
            have hPp := HP.out.poke 6 (.slice fa (l2.frames.length + 1) fc)
            have hTp := LkTo.poke (W := Ye) (c := { c2 with fv := .slice fa (l2.frames.length + 1) fc, uv := .slice ua (l2.units.length + 1) uc }) 6 (.slice fa (l2.frames.length + 1) fc)
            have hOp := hTp.out HO.out
            have hXp := HX.out.same hOp.2
            go_simp
            refine hKK.out _ _ ?_
            clear hKK K c6 f6 HP HX HO hTp hInv hHeld
            generalize Ye.setCell ⟨c2.L, 6, none⟩ (.slice fa (l2.frames.length + 1) fc) = Yf at hPp hXp hOp ⊢
            have HP := Lib.hid hPp; have HX := Lib.hid hXp; have HO := Lib.hid hOp.1
            clear hPp hXp hOp
            have c7 := HP.out.blk.cell 7; have f7 := HP.out.blk.free 7
            simp only [lkCells, List.cons_append, List.nil_append, List.set_cons_zero, List.set_cons_succ, List.getElem?_cons_zero, List.getElem?_cons_succ] at c7
            refine WpEnt.ready (rs := [19]) (by kernel_rfl) (by simp) ?_
            refine EachEnt.past rfl (by kernel_rfl) (fun K hKK => ?_)
            go_simp
            refine hKK.out _ _ ?_
            clear hKK K
            try simp only [Act.put, List.setIfInBounds_toArray, List.set_cons_zero, List.set_cons_succ]
            refine WpEnt.ready (rs := [20]) (by kernel_rfl) (by simp) ?_
            refine EachEnt.past rfl (by kernel_rfl) (fun K hKK => ?_)
            go_simp
            refine hKK.out _ _ ?_
            clear hKK K
            try simp only [Act.put, List.setIfInBounds_toArray, List.set_cons_zero, List.set_cons_succ]
            refine WpEnt.ready (rs := [21]) (by kernel_rfl) (by simp) ?_
            refine EachEnt.past rfl (by kernel_rfl) (fun K hKK => ?_)
            go_simp
            refine hKK.out _ _ ?_
            clear hKK K
            have hPp := HP.out.poke 7 (.slice ua (l2.units.length + 1) uc)
            have hTp := LkTo.poke (W := Yf) (c := { c2 with fv := .slice fa (l2.frames.length + 1) fc, uv := .slice ua (l2.units.length + 1) uc }) 7 (.slice ua (l2.units.length + 1) uc)
            have hOp := hTp.out HO.out
            have hXp := HX.out.same hOp.2
            refine WpEnt.done (by kernel_rfl) ?_ _
            refine post_any (fun W' => ∃ c' : Lc, c'.L = c2.L ∧ LkM w W' c' (lkCells c' { l2 with frames := l2.frames ++ [⟨xc, xch, xb, xk, xs, xd⟩], units := l2.units ++ [u] }) { l2 with frames := l2.frames ++ [⟨xc, xch, xb, xk, xs, xd⟩], units := l2.units ++ [u] } ∧ OutC c' W' r ∧ Blk W' r [.int .i64 xc, .int .i64 xch, .bool xb, .bool xk, .int .i64 xs, .string xd] 37) ⟨{ c2 with fv := .slice fa (l2.frames.length + 1) fc, uv := .slice ua (l2.units.length + 1) uc }, rfl, hPp, hOp.1, hXp⟩ ?_
            clear hPp hTp hOp hXp HP HX HO c7 f7 x0
            rintro Y3 ⟨c3, hcL3, hP, hO, hX⟩
            have HP := Lib.hid hP; have HCL3 := Lib.hid hcL3
            clear hP hO hX hcL3
            go_wp2_with fail
            go_ret
            refine ⟨rfl, c3, HCL3.out.trans HCL.out, ?_⟩
            rw [HE.out]
            exact HP.out
        · refine step_build_1 33 9 [.string u] rfl _ rfl _ rfl (build_str _ u) ?_
          have hL2 := hL.alloc hL.size (Obj.cells (List.toArray [.string u]) 9)
          have hyB := Blk.new Y0 [.string u] 9
          obtain ⟨nB, hnB⟩ : ∃ nb, nb = Y0.heap.size := ⟨_, rfl⟩
          have hmB : Y0.heap.size ≤ nB := by rw [hnB]; exact hL.size
          rw [← hnB] at hyB ⊢
          obtain ⟨Yn, hYn⟩ : ∃ Wb, Wb = Y0.alloc (Obj.cells (List.toArray [.string u]) 9) := ⟨_, rfl⟩
          rw [← hYn] at hL2 hyB ⊢
          refine hKK.out _ _ ⟨HP.out.blk.below hL2 HP.out.blk.lt, HX.out.below hL2 HX.out.lt⟩ (fun hInv2 hHeld2 => ?_)
          clear hYn hnB hL
          have hL := hL2; clear hL2
          clear hKK hKB K hInv hHeld; have hInv := hInv2; have hHeld := hHeld2; clear hInv2 hHeld2
          simp only [Act.put, List.setIfInBounds_toArray, List.set_cons_zero, List.set_cons_succ]
          refine WpEnt.ready (rs := [7]) (by kernel_rfl) (by simp) ?_
          refine EachEnt.cons (some 76) rfl rfl (by decide) (by kernel_rfl) hInv (fun K hKK hKB => ?_) (EachEnt.nil)
          refine step_build_1 34 37 [.int .i64 xc, .int .i64 xch, .bool xb, .bool xk, .int .i64 xs, .string xd] rfl _ rfl _ rfl (build_tc _ ⟨xc, xch, xb, xk, xs, xd⟩) ?_
          have hL2 := hL.alloc hL.size (Obj.cells (List.toArray [.int .i64 xc, .int .i64 xch, .bool xb, .bool xk, .int .i64 xs, .string xd]) 37)
          have hyA := Blk.new Yn [.int .i64 xc, .int .i64 xch, .bool xb, .bool xk, .int .i64 xs, .string xd] 37
          have hyo := hyB.alloc (Obj.cells (List.toArray [.int .i64 xc, .int .i64 xch, .bool xb, .bool xk, .int .i64 xs, .string xd]) 37); clear hyB; have hyB := hyo; clear hyo
          obtain ⟨nA, hnA⟩ : ∃ nb, nb = Yn.heap.size := ⟨_, rfl⟩
          have hmA : Y0.heap.size ≤ nA := by rw [hnA]; exact hL.size
          rw [← hnA] at hyA ⊢
          obtain ⟨Ym, hYn⟩ : ∃ Wb, Wb = Yn.alloc (Obj.cells (List.toArray [.int .i64 xc, .int .i64 xch, .bool xb, .bool xk, .int .i64 xs, .string xd]) 37) := ⟨_, rfl⟩
          rw [← hYn] at hL2 hyA hyB ⊢
          refine hKK.out _ _ ⟨HP.out.blk.below hL2 HP.out.blk.lt, HX.out.below hL2 HX.out.lt⟩ (fun hInv2 hHeld2 => ?_)
          clear hYn hnA hL
          have hL := hL2; clear hL2
          clear hKK hKB K hInv hHeld; have hInv := hInv2; have hHeld := hHeld2; clear hInv2 hHeld2
          simp only [Act.put, List.setIfInBounds_toArray, List.set_cons_zero, List.set_cons_succ]
          refine WpEnt.ready (rs := [8]) (by kernel_rfl) (by simp) ?_
          refine EachEnt.cons (some 77) rfl rfl (by decide) (by kernel_rfl) hInv (fun K hKK hKB => ?_) (EachEnt.nil)
          refine step_append_q 34 37 6 48 i0 (.agg #[.int .i64 0, .int .i64 0, .bool false, .bool false, .int .i64 0, .string ⟨#[]⟩]) rfl _ _ rfl Tryz.underlying34 hi0 hz0 rfl hz1 hz2 0 c2.fv l2.frames.length _ rfl (q_below HP.out.frames hL (Nat.le_refl _)) nA 0 1 1 [.int .i64 xc, .int .i64 xch, .bool xb, .bool xk, .int .i64 xs, .string xd] rfl rfl (by intro z hz; simp at hz; rcases hz with rfl | rfl | rfl | rfl | rfl | rfl <;> rfl) (fun j z hj => by rw [Nat.zero_add]; exact (hyA.cell j).trans hj) (by omega) (by unfold maxLen; omega) (Nat.zero_le _) ?_
          intro v6 Yd hq hk hm
          obtain ⟨hPn, hTn⟩ := HP.out.pushF (q := l2.frames ++ [⟨xc, xch, xb, xk, xs, xd⟩]) hL hk hm (by simp only [List.length_append, List.length_singleton, tcRow_snoc]; exact hq)
          have hOn := hTn.out HO.out
          have hXn := HX.out.same hOn.2
          have hyo := hyB.keep hk (fun hx => by have := (q_lt HP.out.frames nB (by simpa using hx)).2; omega); clear hyB; have hyB := hyo; clear hyo
          refine hKK.out _ _ ⟨hPn.blk, hXn⟩ (fun hInv2 hHeld2 => ?_)
          clear HP HX HO hL hyA hmA hk hm hq hTn
          have HP := Lib.hid hPn; have HX := Lib.hid hXn; have HO := Lib.hid hOn.1
          clear hPn hXn hOn
          have hL : Below Yd.heap.size Yd Yd := Below.refl _ _
          clear hKK hKB K hInv hHeld; have hInv := hInv2; have hHeld := hHeld2; clear hInv2 hHeld2
          simp only [Act.put, List.setIfInBounds_toArray, List.set_cons_zero, List.set_cons_succ]
          refine WpEnt.ready (rs := [15]) (by kernel_rfl) (by simp) ?_
          refine EachEnt.cons (some 84) rfl rfl (by decide) (by kernel_rfl) hInv (fun K hKK hKB => ?_) (EachEnt.nil)
          refine step_append_q 33 9 1 16 i1 (.string ⟨#[]⟩) rfl _ _ rfl Tryz.underlying33 hi1 hw0 rfl hw1 hw2 0 c2.uv l2.units.length _ rfl (q_below HP.out.units hL (Nat.le_refl _)) nB 0 1 1 [.string u] rfl rfl (by intro z hz; simp at hz; subst hz; rfl) (fun j z hj => by rw [Nat.zero_add]; exact (hyB.cell j).trans hj) (by omega) (by unfold maxLen; omega) (Nat.zero_le _) ?_
          intro v7 Ye hq hk hm
          obtain ⟨hPn, hTn⟩ := HP.out.pushU (q := l2.units ++ [u]) hL hk hm (by simp only [List.length_append, List.length_singleton, stRow_snoc]; exact hq)
          have hOn := hTn.out HO.out
          have hXn := HX.out.same hOn.2
          refine hKK.out _ _ ⟨hPn.blk, hXn⟩ (fun hInv2 hHeld2 => ?_)
          clear HP HX HO hL hyB hmB hk hm hq hTn
          have HP := Lib.hid hPn; have HX := Lib.hid hXn; have HO := Lib.hid hOn.1
          clear hPn hXn hOn
          clear hKK hKB K hInv hHeld; have hInv := hInv2; have hHeld := hHeld2; clear hInv2 hHeld2
          simp only [Act.put, List.setIfInBounds_toArray, List.set_cons_zero, List.set_cons_succ]
          refine WpEnt.take 1 (i := 16) (some 85) (v := ?_) rfl rfl (by kernel_rfl) (by kernel_rfl) (by kernel_rfl) (fun _ _ _ h => h) (by kernel_rfl) hInv (by assumption) (by rfl) ?_ (fun hInv2 => ?_)
          rotate_left
          · (intro w hSw; (try dsimp only at hSw); obtain ⟨s6, s7, s0, s1, s2, s3, s4, s5⟩ := x0 _ hSw; go_simp; (try with_reducible rfl))
          clear hInv; have hInv := hInv2; clear hInv2
          simp only [Act.put, List.setIfInBounds_toArray, List.set_cons_zero, List.set_cons_succ]
          refine WpEnt.take 1 (i := 17) (some 86) (v := ?_) rfl rfl (by kernel_rfl) (by kernel_rfl) (by kernel_rfl) (fun _ _ _ h => h) (by kernel_rfl) hInv (by assumption) (by rfl) ?_ (fun hInv2 => ?_)
          rotate_left
          · (intro w hSw; (try dsimp only at hSw); obtain ⟨s6, s7, s0, s1, s2, s3, s4, s5⟩ := x0 _ hSw; go_simp; (try with_reducible rfl))
          clear hInv; have hInv := hInv2; clear hInv2
          simp only [Act.put, List.setIfInBounds_toArray, List.set_cons_zero, List.set_cons_succ]
          refine WpEnt.ready (rs := [18]) (by kernel_rfl) (by simp) ?_
          refine EachEnt.past rfl (by kernel_rfl) (fun K hKK => ?_)
          obtain ⟨fa, fc, hfv⟩ := qform HP.out.frames
          obtain ⟨ua, uc, huv⟩ := qform HP.out.units
          simp only [List.length_append, List.length_singleton] at hfv huv
          subst hfv huv
          have c6 := HP.out.blk.cell 6; have f6 := HP.out.blk.free 6
          simp only [lkCells, List.cons_append, List.nil_append, List.getElem?_cons_zero, List.getElem?_cons_succ] at c6
          have hPp := HP.out.poke 6 (.slice fa (l2.frames.length + 1) fc)
          have hTp := LkTo.poke (W := Ye) (c := { c2 with fv := .slice fa (l2.frames.length + 1) fc, uv := .slice ua (l2.units.length + 1) uc }) 6 (.slice fa (l2.frames.length + 1) fc)
          have hOp := hTp.out HO.out
          have hXp := HX.out.same hOp.2
          go_simp
          refine hKK.out _ _ ?_
          clear hKK K c6 f6 HP HX HO hTp hInv hHeld
          generalize Ye.setCell ⟨c2.L, 6, none⟩ (.slice fa (l2.frames.length + 1) fc) = Yf at hPp hXp hOp ⊢
          have HP := Lib.hid hPp; have HX := Lib.hid hXp; have HO := Lib.hid hOp.1
          clear hPp hXp hOp
          have c7 := HP.out.blk.cell 7; have f7 := HP.out.blk.free 7
          simp only [lkCells, List.cons_append, List.nil_append, List.set_cons_zero, List.set_cons_succ, List.getElem?_cons_zero, List.getElem?_cons_succ] at c7
          refine WpEnt.ready (rs := [19]) (by kernel_rfl) (by simp) ?_
          refine EachEnt.past rfl (by kernel_rfl) (fun K hKK => ?_)
          go_simp
          refine hKK.out _ _ ?_
          clear hKK K
          try simp only [Act.put, List.setIfInBounds_toArray, List.set_cons_zero, List.set_cons_succ]
          refine WpEnt.ready (rs := [20]) (by kernel_rfl) (by simp) ?_
          refine EachEnt.past rfl (by kernel_rfl) (fun K hKK => ?_)
          go_simp
          refine hKK.out _ _ ?_
          clear hKK K
          try simp only [Act.put, List.setIfInBounds_toArray, List.set_cons_zero, List.set_cons_succ]
          refine WpEnt.ready (rs := [21]) (by kernel_rfl) (by simp) ?_
          refine EachEnt.past rfl (by kernel_rfl) (fun K hKK => ?_)
          go_simp
          refine hKK.out _ _ ?_
          clear hKK K
          have hPp := HP.out.poke 7 (.slice ua (l2.units.length + 1) uc)
          have hTp := LkTo.poke (W := Yf) (c := { c2 with fv := .slice fa (l2.frames.length + 1) fc, uv := .slice ua (l2.units.length + 1) uc }) 7 (.slice ua (l2.units.length + 1) uc)
          have hOp := hTp.out HO.out
          have hXp := HX.out.same hOp.2
          refine WpEnt.done (by kernel_rfl) ?_ _
          refine post_any (fun W' => ∃ c' : Lc, c'.L = c2.L ∧ LkM w W' c' (lkCells c' { l2 with frames := l2.frames ++ [⟨xc, xch, xb, xk, xs, xd⟩], units := l2.units ++ [u] }) { l2 with frames := l2.frames ++ [⟨xc, xch, xb, xk, xs, xd⟩], units := l2.units ++ [u] } ∧ OutC c' W' r ∧ Blk W' r [.int .i64 xc, .int .i64 xch, .bool xb, .bool xk, .int .i64 xs, .string xd] 37) ⟨{ c2 with fv := .slice fa (l2.frames.length + 1) fc, uv := .slice ua (l2.units.length + 1) uc }, rfl, hPp, hOp.1, hXp⟩ ?_
          clear hPp hTp hOp hXp HP HX HO c7 f7 x0
          rintro Y3 ⟨c3, hcL3, hP, hO, hX⟩
          have HP := Lib.hid hP; have HCL3 := Lib.hid hcL3
          clear hP hO hX hcL3
          go_wp2_with fail
          go_ret
          refine ⟨rfl, c3, HCL3.out.trans HCL.out, ?_⟩
          rw [HE.out]
          exact HP.out
  · cases twice
    all_goals
      go_wp2_with fail
      go_ret
      have h0 := HP.out
      refine ⟨rfl, c, rfl, ?_⟩
      have e : l3 = l1 := by rw [HL3.out]; simp
      rw [e]
      exact h0
end
end Go.Proofs.YtgopighmifpefaaGreatDoor
