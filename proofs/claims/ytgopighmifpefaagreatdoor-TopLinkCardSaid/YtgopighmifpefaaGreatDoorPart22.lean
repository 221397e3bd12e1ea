/- What is proved here: a part of the proof of TopLink (texts G3). No condition. -/
import Derived.Deep.DeepCutAuto
import Derived.Deep.RegionHeld3
import Derived.Test.YtgopighmifpefaaGreatDoorPart12
import Derived.Test.YtgopighmifpefaaGreatDoorPart21
set_option linter.unusedVariables false
set_option linter.unusedSimpArgs false
namespace Go.Proofs.YtgopighmifpefaaGreatDoor
section
open Go.RowKit
set_option maxHeartbeats 4000000 in
set_option maxRecDepth 100000 in
theorem Get_short (b : ByteArray) (w : World) (h : b.size ≤ 7 ∨ 207 < b.size) : Calls Tryz.prog 68 #[.string b] w fun e w' => e = .returned (getV b) ∧ Below w.heap.size w w' := by
  unfold getV
  rw [if_pos h]
  have HL := Lib.hid ((Below.refl w.heap.size w).alloc (Nat.le_refl _) (Obj.cells Tc.zero.cells.toArray 37))
  by_cases h1 : b.size ≤ 7
  · have k1 : (b.size : Int) ≤ 7 := by omega
    clear h h1
    go_enter Tryz.func68, Tryz.ntmps68
    go_wp2_with fail
    refine ret_cell_tmp rfl w.heap.size 37 Tc.zero.cells rfl (Blk.new w _ _) Tryz.underlying37 rfl (by kernel_rfl) rfl ?_
    exact ⟨rfl, HL.out⟩
  · have k1 : ¬ (b.size : Int) ≤ 7 := by omega
    have k2 : (207 : Int) < b.size := by omega
    clear h h1
    go_enter Tryz.func68, Tryz.ntmps68
    go_wp2_with fail
    refine ret_cell_tmp rfl w.heap.size 37 Tc.zero.cells rfl (Blk.new w _ _) Tryz.underlying37 rfl (by kernel_rfl) rfl ?_
    exact ⟨rfl, HL.out⟩
/-- Two cells that stay, behind whatever makes memory. -/
def StaysX (b : Nat) (w w' : World) : Prop := Below w.heap.size w w' ∧ b < w.heap.size
section
variable {w w' w'' : World} {b : Nat} {v0 v1 : Value}
theorem c2_below (h : w'.cell? ⟨b, 0, none⟩ = some v0 ∧ w'.cell? ⟨b, 1, none⟩ = some v1 ∧ StaysX b w w') (k : Below w'.heap.size w' w'') : w''.cell? ⟨b, 0, none⟩ = some v0 ∧ w''.cell? ⟨b, 1, none⟩ = some v1 ∧ StaysX b w w'' := by
  obtain ⟨h0, h1, hr⟩ := h
  have hlt : b < w'.heap.size := Nat.lt_of_lt_of_le hr.2 hr.1.size
  exact ⟨(k.cell (p := ⟨b, 0, none⟩) hlt).trans h0, (k.cell (p := ⟨b, 1, none⟩) hlt).trans h1, hr.1.trans (k.mono hr.1.size), hr.2⟩
theorem c2_alloc (o : Obj) (h : w'.cell? ⟨b, 0, none⟩ = some v0 ∧ w'.cell? ⟨b, 1, none⟩ = some v1 ∧ StaysX b w w') : (w'.alloc o).cell? ⟨b, 0, none⟩ = some v0 ∧ (w'.alloc o).cell? ⟨b, 1, none⟩ = some v1 ∧ StaysX b w (w'.alloc o) := c2_below h ((Below.refl _ _).alloc (Nat.le_refl _) o)
theorem c2_set {g i : Nat} {v : Value} (hne : b ≠ g) (hg : w.heap.size ≤ g) (h : w'.cell? ⟨b, 0, none⟩ = some v0 ∧ w'.cell? ⟨b, 1, none⟩ = some v1 ∧ StaysX b w w') : (w'.setCell ⟨g, i, none⟩ v).cell? ⟨b, 0, none⟩ = some v0 ∧ (w'.setCell ⟨g, i, none⟩ v).cell? ⟨b, 1, none⟩ = some v1 ∧ StaysX b w (w'.setCell ⟨g, i, none⟩ v) := by
  have hb := Below.heap_setCell w' ⟨g, i, none⟩ v b hne
  exact ⟨(World.cell?_of_block (w := w') (a := ⟨b, 0, none⟩) hb).trans h.1, (World.cell?_of_block (w := w') (a := ⟨b, 1, none⟩) hb).trans h.2.1, h.2.2.1.setCell hg v, h.2.2.2⟩
theorem c2_drew (h : w'.cell? ⟨b, 0, none⟩ = some v0 ∧ w'.cell? ⟨b, 1, none⟩ = some v1 ∧ StaysX b w w') : w'.drew.cell? ⟨b, 0, none⟩ = some v0 ∧ w'.drew.cell? ⟨b, 1, none⟩ = some v1 ∧ StaysX b w w'.drew := ⟨h.1, h.2.1, h.2.2.1.drew, h.2.2.2⟩
end
section
variable {w w5 w7 : World} {x y : Value}
theorem get_A (h6 : Below w.heap.size w (w5.alloc (Obj.cells #[x, y] 151))) (z6 : Blk (w5.alloc (Obj.cells #[x, y] 151)) w.heap.size Tc.zero.cells 37) (hzl : w.heap.size < w5.heap.size) (h7 : Below (w5.alloc (Obj.cells #[x, y] 151)).drew.heap.size (w5.alloc (Obj.cells #[x, y] 151)).drew w7) (c0 c1 c2 c3 c4 c5 : Value) :
    w7.heap.size ≠ w.heap.size ∧ Below w.heap.size w (w7.alloc (Obj.cells #[c0, c1, c2, c3, c4, c5] 37)) ∧ Blk (w7.alloc (Obj.cells #[c0, c1, c2, c3, c4, c5] 37)) w.heap.size Tc.zero.cells 37 ∧ Blk (w7.alloc (Obj.cells #[c0, c1, c2, c3, c4, c5] 37)) w5.heap.size [x, y] 151 ∧ Blk (w7.alloc (Obj.cells #[c0, c1, c2, c3, c4, c5] 37)) w7.heap.size [c0, c1, c2, c3, c4, c5] 37 := by
  have hs : (w5.alloc (Obj.cells #[x, y] 151)).drew.heap.size = w5.heap.size + 1 := World.size_alloc ..
  have h := h7.size
  rw [hs] at h
  have h6s : w.heap.size ≤ (w5.alloc (Obj.cells #[x, y] 151)).drew.heap.size := by rw [hs]; omega
  exact ⟨by omega, (h6.drew.trans (h7.mono h6s)).alloc (by omega) _, (z6.drew.below h7 (by rw [hs]; omega)).alloc _, ((Blk.new w5 [x, y] 151).drew.below h7 (by rw [hs]; omega)).alloc _, Blk.new w7 _ _⟩
theorem get_B (h6 : Below w.heap.size w (w5.alloc (Obj.cells #[x, y] 151))) (z6 : Blk (w5.alloc (Obj.cells #[x, y] 151)) w.heap.size Tc.zero.cells 37) (hzl : w.heap.size < w5.heap.size) (h7 : Below ((w5.alloc (Obj.cells #[x, y] 151)).alloc (Obj.cells #[.int .i64 0, .int .i64 0, .bool false, .bool false, .int .i64 0, .string ⟨#[]⟩] 37)).drew.heap.size ((w5.alloc (Obj.cells #[x, y] 151)).alloc (Obj.cells #[.int .i64 0, .int .i64 0, .bool false, .bool false, .int .i64 0, .string ⟨#[]⟩] 37)).drew w7) (c0 c1 c2 c3 c4 c5 : Value) :
    w5.heap.size + 1 ≠ w.heap.size ∧ Below w.heap.size w ((((((w7.setCell ⟨w5.heap.size + 1, 0, none⟩ c0).setCell ⟨w5.heap.size + 1, 1, none⟩ c1).setCell ⟨w5.heap.size + 1, 2, none⟩ c2).setCell ⟨w5.heap.size + 1, 3, none⟩ c3).setCell ⟨w5.heap.size + 1, 4, none⟩ c4).setCell ⟨w5.heap.size + 1, 5, none⟩ c5) ∧ Blk ((((((w7.setCell ⟨w5.heap.size + 1, 0, none⟩ c0).setCell ⟨w5.heap.size + 1, 1, none⟩ c1).setCell ⟨w5.heap.size + 1, 2, none⟩ c2).setCell ⟨w5.heap.size + 1, 3, none⟩ c3).setCell ⟨w5.heap.size + 1, 4, none⟩ c4).setCell ⟨w5.heap.size + 1, 5, none⟩ c5) w.heap.size Tc.zero.cells 37 ∧ Blk ((((((w7.setCell ⟨w5.heap.size + 1, 0, none⟩ c0).setCell ⟨w5.heap.size + 1, 1, none⟩ c1).setCell ⟨w5.heap.size + 1, 2, none⟩ c2).setCell ⟨w5.heap.size + 1, 3, none⟩ c3).setCell ⟨w5.heap.size + 1, 4, none⟩ c4).setCell ⟨w5.heap.size + 1, 5, none⟩ c5) w5.heap.size [x, y] 151 ∧ Blk ((((((w7.setCell ⟨w5.heap.size + 1, 0, none⟩ c0).setCell ⟨w5.heap.size + 1, 1, none⟩ c1).setCell ⟨w5.heap.size + 1, 2, none⟩ c2).setCell ⟨w5.heap.size + 1, 3, none⟩ c3).setCell ⟨w5.heap.size + 1, 4, none⟩ c4).setCell ⟨w5.heap.size + 1, 5, none⟩ c5) (w5.heap.size + 1) [c0, c1, c2, c3, c4, c5] 37 := by
  have hs : ((w5.alloc (Obj.cells #[x, y] 151)).alloc (Obj.cells #[.int .i64 0, .int .i64 0, .bool false, .bool false, .int .i64 0, .string ⟨#[]⟩] 37)).drew.heap.size = w5.heap.size + 2 := by show (World.alloc _ _).heap.size = _; rw [World.size_alloc, World.size_alloc]
  have h := h7.size
  rw [hs] at h
  have h6s : w.heap.size ≤ ((w5.alloc (Obj.cells #[x, y] 151)).alloc (Obj.cells #[.int .i64 0, .int .i64 0, .bool false, .bool false, .int .i64 0, .string ⟨#[]⟩] 37)).drew.heap.size := by rw [hs]; omega
  have hF : w.heap.size ≤ w5.heap.size + 1 := by omega
  have n1 : w.heap.size ≠ w5.heap.size + 1 := by omega
  have n2 : w5.heap.size ≠ w5.heap.size + 1 := by omega
  have hb := (h6.alloc h6.size (Obj.cells #[.int .i64 0, .int .i64 0, .bool false, .bool false, .int .i64 0, .string ⟨#[]⟩] 37)).drew.trans (h7.mono h6s)
  have hz := (z6.alloc (Obj.cells #[.int .i64 0, .int .i64 0, .bool false, .bool false, .int .i64 0, .string ⟨#[]⟩] 37)).drew.below h7 (by rw [hs]; omega)
  have hx := ((Blk.new w5 [x, y] 151).alloc (Obj.cells #[.int .i64 0, .int .i64 0, .bool false, .bool false, .int .i64 0, .string ⟨#[]⟩] 37)).drew.below h7 (by rw [hs]; omega)
  have hf := (Blk.new_at (w5.alloc (Obj.cells #[x, y] 151)) Tc.zero.cells 37 (w5.heap.size + 1) (by simp)).drew.below h7 (by rw [hs]; omega)
  exact ⟨by omega, ((((((hb.setCell (p := ⟨w5.heap.size + 1, 0, none⟩) hF _).setCell (p := ⟨w5.heap.size + 1, 1, none⟩) hF _).setCell (p := ⟨w5.heap.size + 1, 2, none⟩) hF _).setCell (p := ⟨w5.heap.size + 1, 3, none⟩) hF _).setCell (p := ⟨w5.heap.size + 1, 4, none⟩) hF _).setCell (p := ⟨w5.heap.size + 1, 5, none⟩) hF _), ((((((hz.set_far n1 _).set_far n1 _).set_far n1 _).set_far n1 _).set_far n1 _).set_far n1 _), ((((((hx.set_far n2 _).set_far n2 _).set_far n2 _).set_far n2 _).set_far n2 _).set_far n2 _), ((((((hf.set 0 _).set 1 _).set 2 _).set 3 _).set 4 _).set 5 _)⟩
end
set_option maxHeartbeats 20000000 in
set_option maxRecDepth 100000 in
theorem Get_long (b : ByteArray) (w : World) (h1 : 8 ≤ b.size) (h2 : b.size ≤ 207) : Calls Tryz.prog 68 #[.string b] w fun e w' => e = .returned (getV b) ∧ Below w.heap.size w w' := by
  obtain ⟨m, hm⟩ : ∃ m, b.size = m + 2 := ⟨b.size - 2, by omega⟩
  have hn := number_two b m (by omega)
  rw [← hm] at hn
  have hsum := fun w => Sum16_any (b.extract 0 m) w (by simp; omega)
  have hok : sumOk b = decide (nat2 b m = (sum16 (b.extract 0 m).data.toList).toNat) := by
    unfold sumOk
    rw [show b.size - 2 = m by omega]
  obtain ⟨x, hx⟩ : ∃ x, x = nat2 b m := ⟨_, rfl⟩
  have hx2 : x < 65536 := by rw [hx]; exact nat2_lt _ _
  obtain ⟨y, hy⟩ : ∃ y, y = (sum16 (b.extract 0 m).data.toList).toNat := ⟨_, rfl⟩
  have hy2 : y < 65536 := by rw [hy]; exact (sum16 _).isLt
  rw [← hx] at hn hok
  rw [show w16 (sum16 (b.extract 0 m).data.toList) = (y : Int) by rw [hy]; rfl] at hsum
  rw [← hy] at hok
  have HN := Lib.hid hn; have HSUM := Lib.hid hsum; have HM := Lib.hid hm; have HOK := Lib.hid hok
  have k1 : ¬ (b.size : Int) ≤ 7 := by omega
  have k2 : ¬ (207 : Int) < b.size := by omega
  have hmw : IntKind.i64.wrap ((b.size : Int) - 2) = (m : Int) := by
    rw [hm]; rw [IntWalk.i64_in _ (by omega)]; omega
  have hmb : (m : Int) ≤ b.size := by omega
  have hyw : IntKind.u64.wrap (y : Int) = (y : Int) := by rw [IntKind.wrap_u64]; omega
  have HL := Lib.hid ((Below.refl w.heap.size w).alloc (Nat.le_refl _) (Obj.cells Tc.zero.cells.toArray 37))
  have HZ := Lib.hid (Blk.new w Tc.zero.cells 37)
  clear hn hsum hm hok hx hy hx2 hy2
  go_enter Tryz.func68, Tryz.ntmps68
  go_upto_region 4 with fail
  go_cut [28] (fun p w' => p = .bool ((x : Int) != (y : Int)) ∧ Below w.heap.size w w' ∧ Blk w' w.heap.size Tc.zero.cells 37)
  case first =>
    go_region_with (first | (go_at_call 96; refine (HN.out _).mono ?_; rintro e w' ⟨rfl, rfl⟩) | (go_at_call 61; refine (HSUM.out _).mono ?_; rintro e w' ⟨rfl, hL⟩))
    all_goals (go_wp2_with fail; go_meet; exact ⟨rfl, HL.out.drew.trans (hL.mono HL.out.size), HZ.out.drew.below hL (by simp)⟩)
  case rest =>
    obtain ⟨rfl, hL4, hZ4⟩ := hcut
    have HL4 := Lib.hid hL4; have HZ4 := Lib.hid hZ4
    clear hL4 hZ4 HL HZ HN HSUM k1 k2 hyw
    by_cases hxy : x = y
    · have hne : ((x : Int) != (y : Int)) = false := by simp [hxy]
      have HXY := Lib.hid hxy
      clear hxy
      have hrd := fun w => read_any b w (by omega)
      have hH2 := nat2_lt b 0
      have hS2 := nat2_lt b 2
      have a1 := and1023 _ hH2
      have a2 := and8192 _ hH2
      have a3 := and4096 _ hH2
      obtain ⟨H, hH⟩ : ∃ n, n = nat2 b 0 := ⟨_, rfl⟩
      obtain ⟨S, hS⟩ : ∃ n, n = nat2 b 2 := ⟨_, rfl⟩
      rw [← hH] at hrd a1 a2 a3 hH2
      rw [← hS] at hrd hS2
      have HRD := Lib.hid hrd; have HH := Lib.hid hH; have HS := Lib.hid hS
      have hcl := fun w => Clone_any (b.extract 5 m) w (by simp; omega)
      have HCL := Lib.hid hcl
      have k4 : (4 : Int) < b.size := by omega
      have i1 : IntKind.i64.wrap ((H : Int) % 1024) = (H : Int) % 1024 := IntWalk.i64_in _ (by omega)
      have i2 : IntKind.i64.wrap ((S : Int) / 1024) = (S : Int) / 1024 := IntWalk.i64_in _ (by omega)
      have i3 : IntKind.i64.wrap ((b[4]'(by omega)).toNat : Int) = ((b[4]'(by omega)).toNat : Int) := IntWalk.i64_in _ (by have := (b[4]'(by omega)).toNat_lt; omega)
      have k5 : (5 : Int) ≤ m := by have := HM.out; omega
      clear hrd hH hS hcl
      go_wp2_with fail
      refine (HRD.out _).mono ?_
      rintro e w5 ⟨rfl, hL5⟩
      have HL5 := Lib.hid (HL4.out.trans (hL5.mono HL4.out.size))
      have HZ5 := Lib.hid (HZ4.out.below hL5 HZ4.out.lt)
      clear hL5 HL4 HZ4
      have HX5 := Lib.hid (Blk.new w5 [.int .u16 H, .int .u16 S] 151)
      have HL6 := Lib.hid (HL5.out.alloc HL5.out.size (Obj.cells #[.int .u16 H, .int .u16 S] 151))
      have HZ6 := Lib.hid (HZ5.out.alloc (Obj.cells #[.int .u16 H, .int .u16 S] 151))
      have hzl := HZ5.out.lt
      clear HL5 HZ5
      have x0 := HX5.out.cell 0
      have x1 := HX5.out.cell 1
      simp only [List.getElem?_cons_zero, List.getElem?_cons_succ] at x0 x1
      have HF6 := Lib.hid (Blk.new_at (w5.alloc (Obj.cells #[.int .u16 H, .int .u16 S] 151)) Tc.zero.cells 37 (w5.heap.size + 1) (by simp))
      go_upto_region 7 with fail
      go_cut [6] (fun p w' => ∃ F, p = .pointer (some ⟨F, 0, none⟩) ∧ F ≠ w.heap.size ∧ Below w.heap.size w w' ∧ Blk w' w.heap.size Tc.zero.cells 37 ∧ Blk w' w5.heap.size [.int .u16 H, .int .u16 S] 151 ∧ Blk w' F [.int .i64 ((H : Int) % 1024), .int .i64 ((S : Int) / 1024), .bool (decide (H / 8192 % 2 = 1)), .bool (decide (H / 4096 % 2 = 1)), .int .i64 ((b[4]'(by omega)).toNat : Int), .string (b.extract 5 m)] 37)
      case first =>
        have hHold : (w5.alloc (Obj.cells #[.int .u16 H, .int .u16 S] 151)).cell? ⟨w5.heap.size, 0, none⟩ = some (.int .u16 H) ∧ (w5.alloc (Obj.cells #[.int .u16 H, .int .u16 S] 151)).cell? ⟨w5.heap.size, 1, none⟩ = some (.int .u16 S) ∧ StaysX w5.heap.size (w5.alloc (Obj.cells #[.int .u16 H, .int .u16 S] 151)) (w5.alloc (Obj.cells #[.int .u16 H, .int .u16 S] 151)) := ⟨x0, x1, Below.refl _ _, by simp⟩
        have HD0 := Lib.hid (c2_drew hHold)
        have HD1 := Lib.hid (c2_drew (c2_alloc (Obj.cells #[.int .i64 0, .int .i64 0, .bool false, .bool false, .int .i64 0, .string ⟨#[]⟩] 37) hHold))
        go_region_held3 (fun w' => w'.cell? ⟨w5.heap.size, 0, none⟩ = some (.int .u16 H) ∧ w'.cell? ⟨w5.heap.size, 1, none⟩ = some (.int .u16 S) ∧ StaysX w5.heap.size (w5.alloc (Obj.cells #[.int .u16 H, .int .u16 S] 151)) w') (first | with_reducible exact hHold | with_reducible exact HD0.out | with_reducible exact c2_below HD0.out hL7 | with_reducible exact c2_alloc _ (c2_below HD0.out hL7) | with_reducible exact HD1.out | with_reducible exact c2_below HD1.out hL7 | (refine c2_set (by omega) (by simp) (c2_set (by omega) (by simp) (c2_set (by omega) (by simp) (c2_set (by omega) (by simp) (c2_set (by omega) (by simp) (c2_set (by omega) (by simp) (?_)))))); with_reducible exact c2_below HD1.out hL7)) (first | (go_at_call 97; refine (HCL.out _).mono ?_; rintro e w7 ⟨rfl, hL7⟩; try (have hF7 := HF6.out.drew.below hL7 (by simp); have g0 := hF7.cell 0; have g1 := hF7.cell 1; have g2 := hF7.cell 2; have g3 := hF7.cell 3; have g4 := hF7.cell 4; have g5 := hF7.cell 5; have q0 := hF7.free 0; have q1 := hF7.free 1; have q2 := hF7.free 2; have q3 := hF7.free 3; have q4 := hF7.free 4; have q5 := hF7.free 5; simp only [Tc.cells, Tc.zero, List.getElem?_cons_zero, List.getElem?_cons_succ] at g0 g1 g2 g3 g4 g5; have HF7 := Lib.hid hF7; clear hF7)))
        all_goals (go_wp2_with fail; go_meet; first | (refine ⟨w7.heap.size, by with_reducible rfl, ?_⟩; exact get_A HL6.out HZ6.out hzl hL7 _ _ _ _ _ _) | (refine ⟨w5.heap.size + 1, by with_reducible rfl, ?_⟩; exact get_B HL6.out HZ6.out hzl hL7 _ _ _ _ _ _))
      case rest =>
        obtain ⟨F, rfl, hFne, hL8, hZ8, hX8, hF8⟩ := hcut
        have HL8 := Lib.hid hL8; have HZ8 := Lib.hid hZ8; have HX8 := Lib.hid hX8; have HF8 := Lib.hid hF8
        clear hL8 hZ8 hX8 hF8 HL6 HZ6 HX5 HF6 x0 x1 a1 a2 a3 i1 i2 i3 HCL HRD k4 k5 hmb
        have hg4 : b[4]'(by omega) = b.data.toList.getD 4 0 := by
          rw [List.getD_eq_getElem?_getD, List.getElem?_eq_getElem (by rw [← Lib.size_eq]; omega)]
          rfl
        obtain ⟨t, htc⟩ : ∃ t : Tc, t = ⟨(H : Int) % 1024, (S : Int) / 1024, decide (H / 8192 % 2 = 1), decide (H / 4096 % 2 = 1), ((b[4]'(by omega)).toNat : Int), b.extract 5 m⟩ := ⟨_, rfl⟩
        have htg : t = getTc b := by
          rw [htc, HH.out, HS.out, hg4]
          unfold getTc
          rw [show b.size - 2 = m by have := HM.out; omega]
          rfl
        have hV : getV b = if t.good && decide (t.headN = H ∧ t.sizeN = S) then .tuple #[t.val, .int .i64 0] else getBad 6 := by
          have hsk : sumOk b = true := by rw [HOK.out]; exact decide_eq_true HXY.out
          unfold getV
          rw [if_neg (by omega), if_pos hsk, ← htg]
          cases hgd : t.good
          · rfl
          · have he := enc_iff b (by omega) (by omega) hsk (by rw [← htg]; exact hgd)
            rw [← htg, ← HH.out, ← HS.out] at he
            rw [decide_eq_decide.2 he]
        have hva := valid_any t
        have hof := fun w (hg : t.good = true) => of_any t w hg
        obtain ⟨hn, hhn⟩ : ∃ n, n = t.headN := ⟨_, rfl⟩
        obtain ⟨zn, hzn⟩ : ∃ n, n = t.sizeN := ⟨_, rfl⟩
        rw [← hhn, ← hzn] at hV hof
        obtain ⟨g, hgg⟩ : ∃ g, g = t.good := ⟨_, rfl⟩
        rw [← hgg] at hV hva hof
        simp only [Tc.val] at hva hof hV
        have hc0 : t.craft = (H : Int) % 1024 := by rw [htc]
        have hc1 : t.chan = (S : Int) / 1024 := by rw [htc]
        have hc2 : t.byp = decide (H / 8192 % 2 = 1) := by rw [htc]
        have hc3 : t.ctl = decide (H / 4096 % 2 = 1) := by rw [htc]
        have hc4 : t.seq = ((b[4]'(by omega)).toNat : Int) := by rw [htc]
        have hc5 : t.data = b.extract 5 m := by rw [htc]
        rw [← hc0, ← hc1, ← hc2, ← hc3, ← hc4, ← hc5] at HF8
        obtain ⟨tc, tch, tb, tk, ts, td⟩ := t
        dsimp only at hva hof hV HF8
        have HV := Lib.hid hV; have HVA := Lib.hid hva; have HOF := Lib.hid hof
        clear hV hva hof htc htg hhn hzn hgg hc0 hc1 hc2 hc3 hc4 hc5 hg4 HH HS HOK HXY HM hne hmw
        have hFl := HF8.out.lt
        cases g
        · have c0 := HF8.out.cell 0
          have c1 := HF8.out.cell 1
          have c2 := HF8.out.cell 2
          have c3 := HF8.out.cell 3
          have c4 := HF8.out.cell 4
          have c5 := HF8.out.cell 5
          simp only [List.getElem?_cons_zero, List.getElem?_cons_succ] at c0 c1 c2 c3 c4 c5
          have x0 := HX8.out.cell 0
          have x1 := HX8.out.cell 1
          simp only [List.getElem?_cons_zero, List.getElem?_cons_succ] at x0 x1
          go_upto_region 8 with fail
          go_cut [64] (fun p w' => p = .bool true ∧ Below w.heap.size w w' ∧ Blk w' w.heap.size Tc.zero.cells 37 ∧ Blk w' F [.int .i64 tc, .int .i64 tch, .bool tb, .bool tk, .int .i64 ts, .string td] 37)
          case first =>
            as_aux_lemma =>
              go_region_with (go_at_call 59; refine (HVA.out _).mono ?_; rintro e w9 ⟨rfl, hL9⟩; have HZ9 := Lib.hid (HZ8.out.drew.below hL9 HZ8.out.lt); have HL9 := Lib.hid (HL8.out.drew.trans (hL9.mono HL8.out.size)); have hF9 := HF8.out.drew.below hL9 HF8.out.lt; have hX9 := HX8.out.drew.below hL9 HX8.out.lt; have d0 := hF9.cell 0; have d1 := hF9.cell 1; have d2 := hF9.cell 2; have d3 := hF9.cell 3; have d4 := hF9.cell 4; have d5 := hF9.cell 5; have s0 := hX9.cell 0; have s1 := hX9.cell 1; simp only [List.getElem?_cons_zero, List.getElem?_cons_succ] at d0 d1 d2 d3 d4 d5 s0 s1; have HF9 := Lib.hid hF9; have HX9 := Lib.hid hX9; clear hF9 hX9 hL9)
              all_goals (go_wp2_with fail; go_meet; exact ⟨rfl, HL9.out, HZ9.out, HF9.out⟩)
          case rest =>
            obtain ⟨rfl, hL11, hZ11, hF11⟩ := hcut
            have HL11 := Lib.hid hL11; have HZ11 := Lib.hid hZ11; have HF11 := Lib.hid hF11
            clear hL11 hZ11 hF11 HL8 HZ8 HF8 HX8
            have z0 := HZ11.out.cell 0
            have z1 := HZ11.out.cell 1
            have z2 := HZ11.out.cell 2
            have z3 := HZ11.out.cell 3
            have z4 := HZ11.out.cell 4
            have z5 := HZ11.out.cell 5
            simp only [Tc.cells, Tc.zero, List.getElem?_cons_zero, List.getElem?_cons_succ] at z0 z1 z2 z3 z4 z5
            have y0 := HZ11.out.free 0
            have y1 := HZ11.out.free 1
            have y2 := HZ11.out.free 2
            have y3 := HZ11.out.free 3
            have y4 := HZ11.out.free 4
            have y5 := HZ11.out.free 5
            have t0 := HF11.out.cell 0
            have t1 := HF11.out.cell 1
            have t2 := HF11.out.cell 2
            have t3 := HF11.out.cell 3
            have t4 := HF11.out.cell 4
            have t5 := HF11.out.cell 5
            simp only [List.getElem?_cons_zero, List.getElem?_cons_succ] at t0 t1 t2 t3 t4 t5
            go_wp2_with fail
            refine ret_cell_tmp rfl w.heap.size 37 Tc.zero.cells rfl ((((((HZ11.out.set 0 _).set 1 _).set 2 _).set 3 _).set 4 _).set 5 _) Tryz.underlying37 rfl (by kernel_rfl) rfl ?_
            exact ⟨by rw [HV.out]; rfl, ((((((HL11.out.setCell (Nat.le_refl _) _).setCell (Nat.le_refl _) _).setCell (Nat.le_refl _) _).setCell (Nat.le_refl _) _).setCell (Nat.le_refl _) _).setCell (Nat.le_refl _) _)⟩
        · by_cases heq : hn = H ∧ zn = S
          · obtain ⟨rfl, rfl⟩ := heq
            rw [decide_eq_true (⟨rfl, rfl⟩ : hn = hn ∧ zn = zn)] at HV
            have c0 := HF8.out.cell 0
            have c1 := HF8.out.cell 1
            have c2 := HF8.out.cell 2
            have c3 := HF8.out.cell 3
            have c4 := HF8.out.cell 4
            have c5 := HF8.out.cell 5
            simp only [List.getElem?_cons_zero, List.getElem?_cons_succ] at c0 c1 c2 c3 c4 c5
            have x0 := HX8.out.cell 0
            have x1 := HX8.out.cell 1
            simp only [List.getElem?_cons_zero, List.getElem?_cons_succ] at x0 x1
            go_upto_region 8 with fail
            go_cut [64] (fun p w' => p = .bool false ∧ Below w.heap.size w w' ∧ Blk w' w.heap.size Tc.zero.cells 37 ∧ Blk w' F [.int .i64 tc, .int .i64 tch, .bool tb, .bool tk, .int .i64 ts, .string td] 37)
            case first =>
              as_aux_lemma =>
                go_region_with (first | (go_at_call 59; refine (HVA.out _).mono ?_; rintro e w9 ⟨rfl, hL9⟩; have HZ9 := Lib.hid (HZ8.out.drew.below hL9 HZ8.out.lt); have HL9 := Lib.hid (HL8.out.drew.trans (hL9.mono HL8.out.size)); have hF9 := HF8.out.drew.below hL9 HF8.out.lt; have hX9 := HX8.out.drew.below hL9 HX8.out.lt; have d0 := hF9.cell 0; have d1 := hF9.cell 1; have d2 := hF9.cell 2; have d3 := hF9.cell 3; have d4 := hF9.cell 4; have d5 := hF9.cell 5; have s0 := hX9.cell 0; have s1 := hX9.cell 1; simp only [List.getElem?_cons_zero, List.getElem?_cons_succ] at d0 d1 d2 d3 d4 d5 s0 s1; have HF9 := Lib.hid hF9; have HX9 := Lib.hid hX9; clear hF9 hX9 hL9) | (go_at_call 98; refine (HOF.out _ (by simp)).mono ?_; rintro e w10 ⟨rfl, hL10⟩; have HZ10 := Lib.hid (HZ9.out.below hL10 HZ9.out.lt); have HL10 := Lib.hid (HL9.out.trans (hL10.mono HL9.out.size)); have hF10 := HF9.out.below hL10 HF9.out.lt; have hX10 := HX9.out.below hL10 HX9.out.lt; have r0 := hX10.cell 0; have r1 := hX10.cell 1; simp only [List.getElem?_cons_zero, List.getElem?_cons_succ] at r0 r1; have HF10 := Lib.hid hF10; have HX10 := Lib.hid hX10; clear hF10 hX10 hL10))
                all_goals (go_wp2_with fail; go_meet; exact ⟨rfl, HL10.out, HZ10.out, HF10.out⟩)
            case rest =>
              obtain ⟨rfl, hL11, hZ11, hF11⟩ := hcut
              have HL11 := Lib.hid hL11; have HZ11 := Lib.hid hZ11; have HF11 := Lib.hid hF11
              clear hL11 hZ11 hF11 HL8 HZ8 HF8 HX8
              have z0 := HZ11.out.cell 0
              have z1 := HZ11.out.cell 1
              have z2 := HZ11.out.cell 2
              have z3 := HZ11.out.cell 3
              have z4 := HZ11.out.cell 4
              have z5 := HZ11.out.cell 5
              simp only [Tc.cells, Tc.zero, List.getElem?_cons_zero, List.getElem?_cons_succ] at z0 z1 z2 z3 z4 z5
              have y0 := HZ11.out.free 0
              have y1 := HZ11.out.free 1
              have y2 := HZ11.out.free 2
              have y3 := HZ11.out.free 3
              have y4 := HZ11.out.free 4
              have y5 := HZ11.out.free 5
              have t0 := HF11.out.cell 0
              have t1 := HF11.out.cell 1
              have t2 := HF11.out.cell 2
              have t3 := HF11.out.cell 3
              have t4 := HF11.out.cell 4
              have t5 := HF11.out.cell 5
              simp only [List.getElem?_cons_zero, List.getElem?_cons_succ] at t0 t1 t2 t3 t4 t5
              go_wp2_with fail
              refine ret_cell_tmp rfl w.heap.size 37 [.int .i64 tc, .int .i64 tch, .bool tb, .bool tk, .int .i64 ts, .string td] rfl ((((((HZ11.out.set 0 _).set 1 _).set 2 _).set 3 _).set 4 _).set 5 _) Tryz.underlying37 rfl (by kernel_rfl) rfl ?_
              exact ⟨by rw [HV.out]; rfl, ((((((HL11.out.setCell (Nat.le_refl _) _).setCell (Nat.le_refl _) _).setCell (Nat.le_refl _) _).setCell (Nat.le_refl _) _).setCell (Nat.le_refl _) _).setCell (Nat.le_refl _) _)⟩
          · rw [decide_eq_false heq] at HV
            have HV := Lib.hid (show getV b = getBad 6 from HV.out)
            by_cases h10 : hn = H
            · have h12 : ((zn : Int) == (S : Int)) = false := by simp; omega
              have h13 : ¬ ((zn : Int) = (S : Int)) := by omega
              clear heq
              have c0 := HF8.out.cell 0
              have c1 := HF8.out.cell 1
              have c2 := HF8.out.cell 2
              have c3 := HF8.out.cell 3
              have c4 := HF8.out.cell 4
              have c5 := HF8.out.cell 5
              simp only [List.getElem?_cons_zero, List.getElem?_cons_succ] at c0 c1 c2 c3 c4 c5
              have x0 := HX8.out.cell 0
              have x1 := HX8.out.cell 1
              simp only [List.getElem?_cons_zero, List.getElem?_cons_succ] at x0 x1
              go_upto_region 8 with fail
              go_cut [64] (fun p w' => p = .bool true ∧ Below w.heap.size w w' ∧ Blk w' w.heap.size Tc.zero.cells 37 ∧ Blk w' F [.int .i64 tc, .int .i64 tch, .bool tb, .bool tk, .int .i64 ts, .string td] 37)
              case first =>
                as_aux_lemma =>
                  go_region_with (first | (go_at_call 59; refine (HVA.out _).mono ?_; rintro e w9 ⟨rfl, hL9⟩; have HZ9 := Lib.hid (HZ8.out.drew.below hL9 HZ8.out.lt); have HL9 := Lib.hid (HL8.out.drew.trans (hL9.mono HL8.out.size)); have hF9 := HF8.out.drew.below hL9 HF8.out.lt; have hX9 := HX8.out.drew.below hL9 HX8.out.lt; have d0 := hF9.cell 0; have d1 := hF9.cell 1; have d2 := hF9.cell 2; have d3 := hF9.cell 3; have d4 := hF9.cell 4; have d5 := hF9.cell 5; have s0 := hX9.cell 0; have s1 := hX9.cell 1; simp only [List.getElem?_cons_zero, List.getElem?_cons_succ] at d0 d1 d2 d3 d4 d5 s0 s1; have HF9 := Lib.hid hF9; have HX9 := Lib.hid hX9; clear hF9 hX9 hL9) | (go_at_call 98; refine (HOF.out _ (by simp)).mono ?_; rintro e w10 ⟨rfl, hL10⟩; have HZ10 := Lib.hid (HZ9.out.below hL10 HZ9.out.lt); have HL10 := Lib.hid (HL9.out.trans (hL10.mono HL9.out.size)); have hF10 := HF9.out.below hL10 HF9.out.lt; have hX10 := HX9.out.below hL10 HX9.out.lt; have r0 := hX10.cell 0; have r1 := hX10.cell 1; simp only [List.getElem?_cons_zero, List.getElem?_cons_succ] at r0 r1; have HF10 := Lib.hid hF10; have HX10 := Lib.hid hX10; clear hF10 hX10 hL10))
                  all_goals (go_wp2_with fail; go_meet; exact ⟨rfl, HL10.out, HZ10.out, HF10.out⟩)
              case rest =>
                obtain ⟨rfl, hL11, hZ11, hF11⟩ := hcut
                have HL11 := Lib.hid hL11; have HZ11 := Lib.hid hZ11; have HF11 := Lib.hid hF11
                clear hL11 hZ11 hF11 HL8 HZ8 HF8 HX8
                have z0 := HZ11.out.cell 0
                have z1 := HZ11.out.cell 1
                have z2 := HZ11.out.cell 2
                have z3 := HZ11.out.cell 3
                have z4 := HZ11.out.cell 4
                have z5 := HZ11.out.cell 5
                simp only [Tc.cells, Tc.zero, List.getElem?_cons_zero, List.getElem?_cons_succ] at z0 z1 z2 z3 z4 z5
                have y0 := HZ11.out.free 0
                have y1 := HZ11.out.free 1
                have y2 := HZ11.out.free 2
                have y3 := HZ11.out.free 3
                have y4 := HZ11.out.free 4
                have y5 := HZ11.out.free 5
                have t0 := HF11.out.cell 0
                have t1 := HF11.out.cell 1
                have t2 := HF11.out.cell 2
                have t3 := HF11.out.cell 3
                have t4 := HF11.out.cell 4
                have t5 := HF11.out.cell 5
                simp only [List.getElem?_cons_zero, List.getElem?_cons_succ] at t0 t1 t2 t3 t4 t5
                go_wp2_with fail
                refine ret_cell_tmp rfl w.heap.size 37 Tc.zero.cells rfl ((((((HZ11.out.set 0 _).set 1 _).set 2 _).set 3 _).set 4 _).set 5 _) Tryz.underlying37 rfl (by kernel_rfl) rfl ?_
                exact ⟨by rw [HV.out]; rfl, ((((((HL11.out.setCell (Nat.le_refl _) _).setCell (Nat.le_refl _) _).setCell (Nat.le_refl _) _).setCell (Nat.le_refl _) _).setCell (Nat.le_refl _) _).setCell (Nat.le_refl _) _)⟩
            · have h12 : ((hn : Int) == (H : Int)) = false := by simp; omega
              have h13 : ¬ ((hn : Int) = (H : Int)) := by omega
              clear heq
              have c0 := HF8.out.cell 0
              have c1 := HF8.out.cell 1
              have c2 := HF8.out.cell 2
              have c3 := HF8.out.cell 3
              have c4 := HF8.out.cell 4
              have c5 := HF8.out.cell 5
              simp only [List.getElem?_cons_zero, List.getElem?_cons_succ] at c0 c1 c2 c3 c4 c5
              have x0 := HX8.out.cell 0
              have x1 := HX8.out.cell 1
              simp only [List.getElem?_cons_zero, List.getElem?_cons_succ] at x0 x1
              go_upto_region 8 with fail
              go_cut [64] (fun p w' => p = .bool true ∧ Below w.heap.size w w' ∧ Blk w' w.heap.size Tc.zero.cells 37 ∧ Blk w' F [.int .i64 tc, .int .i64 tch, .bool tb, .bool tk, .int .i64 ts, .string td] 37)
              case first =>
                as_aux_lemma =>
                  go_region_with (first | (go_at_call 59; refine (HVA.out _).mono ?_; rintro e w9 ⟨rfl, hL9⟩; have HZ9 := Lib.hid (HZ8.out.drew.below hL9 HZ8.out.lt); have HL9 := Lib.hid (HL8.out.drew.trans (hL9.mono HL8.out.size)); have hF9 := HF8.out.drew.below hL9 HF8.out.lt; have hX9 := HX8.out.drew.below hL9 HX8.out.lt; have d0 := hF9.cell 0; have d1 := hF9.cell 1; have d2 := hF9.cell 2; have d3 := hF9.cell 3; have d4 := hF9.cell 4; have d5 := hF9.cell 5; have s0 := hX9.cell 0; have s1 := hX9.cell 1; simp only [List.getElem?_cons_zero, List.getElem?_cons_succ] at d0 d1 d2 d3 d4 d5 s0 s1; have HF9 := Lib.hid hF9; have HX9 := Lib.hid hX9; clear hF9 hX9 hL9) | (go_at_call 98; refine (HOF.out _ (by simp)).mono ?_; rintro e w10 ⟨rfl, hL10⟩; have HZ10 := Lib.hid (HZ9.out.below hL10 HZ9.out.lt); have HL10 := Lib.hid (HL9.out.trans (hL10.mono HL9.out.size)); have hF10 := HF9.out.below hL10 HF9.out.lt; have hX10 := HX9.out.below hL10 HX9.out.lt; have r0 := hX10.cell 0; have r1 := hX10.cell 1; simp only [List.getElem?_cons_zero, List.getElem?_cons_succ] at r0 r1; have HF10 := Lib.hid hF10; have HX10 := Lib.hid hX10; clear hF10 hX10 hL10))
                  all_goals (go_wp2_with fail; go_meet; exact ⟨rfl, HL10.out, HZ10.out, HF10.out⟩)
              case rest =>
                obtain ⟨rfl, hL11, hZ11, hF11⟩ := hcut
                have HL11 := Lib.hid hL11; have HZ11 := Lib.hid hZ11; have HF11 := Lib.hid hF11
                clear hL11 hZ11 hF11 HL8 HZ8 HF8 HX8
                have z0 := HZ11.out.cell 0
                have z1 := HZ11.out.cell 1
                have z2 := HZ11.out.cell 2
                have z3 := HZ11.out.cell 3
                have z4 := HZ11.out.cell 4
                have z5 := HZ11.out.cell 5
                simp only [Tc.cells, Tc.zero, List.getElem?_cons_zero, List.getElem?_cons_succ] at z0 z1 z2 z3 z4 z5
                have y0 := HZ11.out.free 0
                have y1 := HZ11.out.free 1
                have y2 := HZ11.out.free 2
                have y3 := HZ11.out.free 3
                have y4 := HZ11.out.free 4
                have y5 := HZ11.out.free 5
                have t0 := HF11.out.cell 0
                have t1 := HF11.out.cell 1
                have t2 := HF11.out.cell 2
                have t3 := HF11.out.cell 3
                have t4 := HF11.out.cell 4
                have t5 := HF11.out.cell 5
                simp only [List.getElem?_cons_zero, List.getElem?_cons_succ] at t0 t1 t2 t3 t4 t5
                go_wp2_with fail
                refine ret_cell_tmp rfl w.heap.size 37 Tc.zero.cells rfl ((((((HZ11.out.set 0 _).set 1 _).set 2 _).set 3 _).set 4 _).set 5 _) Tryz.underlying37 rfl (by kernel_rfl) rfl ?_
                exact ⟨by rw [HV.out]; rfl, ((((((HL11.out.setCell (Nat.le_refl _) _).setCell (Nat.le_refl _) _).setCell (Nat.le_refl _) _).setCell (Nat.le_refl _) _).setCell (Nat.le_refl _) _).setCell (Nat.le_refl _) _)⟩
    · have hne : ((x : Int) != (y : Int)) = true := by simp; omega
      rw [decide_eq_false hxy] at HOK
      clear hxy
      have z0 := HZ4.out.cell 0
      have z1 := HZ4.out.cell 1
      have z2 := HZ4.out.cell 2
      have z3 := HZ4.out.cell 3
      have z4 := HZ4.out.cell 4
      have z5 := HZ4.out.cell 5
      simp only [Tc.cells, Tc.zero, List.getElem?_cons_zero, List.getElem?_cons_succ] at z0 z1 z2 z3 z4 z5
      have f0 := HZ4.out.free 0
      have f1 := HZ4.out.free 1
      have f2 := HZ4.out.free 2
      have f3 := HZ4.out.free 3
      have f4 := HZ4.out.free 4
      have f5 := HZ4.out.free 5
      go_wp2_with fail
      refine ret_cell_tmp rfl w.heap.size 37 Tc.zero.cells rfl ((((((HZ4.out.set 0 _).set 1 _).set 2 _).set 3 _).set 4 _).set 5 _) Tryz.underlying37 rfl (by kernel_rfl) rfl ?_
      refine ⟨?_, ((((((HL4.out.setCell (Nat.le_refl _) _).setCell (Nat.le_refl _) _).setCell (Nat.le_refl _) _).setCell (Nat.le_refl _) _).setCell (Nat.le_refl _) _).setCell (Nat.le_refl _) _)⟩
      unfold getV
      rw [if_neg (by omega), HOK.out]
      rfl
end
end Go.Proofs.YtgopighmifpefaaGreatDoor
