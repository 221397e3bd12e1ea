/- What is proved here: walks of the functions that write an end unit and the gaps of a unit. -/
import Derived.Test.YtkpgenmlpkfokaaN9
set_option linter.unusedVariables false
set_option linter.unusedSimpArgs false
namespace Go.Proofs.Ytkpgenmlpkfokaa
open Go.RowKit
theorem concat_arm (w : World) (v0 v1 v2 : Value) (x0 x1 x2 : List UInt8) {b0 b1 b2 : Nat} (h0 : Row w b0 v0 x0) (h1 : Row w b1 v1 x1) (h2 : Row w b2 v2 x2) (hl : 1 ≤ (x0 ++ x1 ++ x2).length ∧ (x0 ++ x1 ++ x2).length ≤ 1000000) :
    Calls Try.prog 51 #[.slice (some ⟨w.heap.size, 0, none⟩) 3 3] (w.alloc (Obj.cells #[v0, v1, v2] 48)) fun e w' => ∃ v', e = .returned v' ∧ (Row w' w.heap.size v' (x0 ++ x1 ++ x2) ∧ Below w.heap.size w w') := by
  have hB := Blk.new w [v0, v1, v2] 48
  have hb : Below w.heap.size w (w.alloc (Obj.cells #[v0, v1, v2] 48)) := (Below.refl _ w).alloc (Nat.le_refl _) _
  have e3 : (List.range 3).flatMap (fun i => match i with | 0 => x0 | 1 => x1 | _ => x2) = x0 ++ x1 ++ x2 := by simp [List.range_succ]
  have hR : RowsIn (w.alloc (Obj.cells #[v0, v1, v2] 48)) w.heap.size 0 3 (fun i => match i with | 0 => v0 | 1 => v1 | _ => v2) (fun i => match i with | 0 => x0 | 1 => x1 | _ => x2) := by
    intro i hi
    match i, hi with
    | 0, _ => exact ⟨hB.cell 0, row_mono (row_below h0 hb (Nat.le_refl _)) (Nat.zero_le _)⟩
    | 1, _ => exact ⟨hB.cell 1, row_mono (row_below h1 hb (Nat.le_refl _)) (Nat.zero_le _)⟩
    | 2, _ => exact ⟨hB.cell 2, row_mono (row_below h2 hb (Nat.le_refl _)) (Nat.zero_le _)⟩
  have hc := Concat_any w.heap.size 0 3 3 _ _ (w.alloc (Obj.cells #[v0, v1, v2] 48)) (by simp) (by omega) (by omega) hR (by rw [e3]; exact hl.1) (by rw [e3]; exact hl.2)
  rw [e3] at hc
  exact hc.mono fun e w' ⟨v', h1, h2, h3⟩ => ⟨v', h1, row_mono h2 (by simp), hb.trans (h3.mono (by simp))⟩
set_option maxHeartbeats 16000000 in
set_option maxRecDepth 100000 in
theorem put3_any (u : Un) (gv : Value) (w : World) (hs : smallU u) (hi : intsU u) (hG : GapsAt w gv u.gaps) : Calls Try.prog 50 #[u.val gv] w fun e w' => ∃ v', e = .returned v' ∧ Row w' w.heap.size v' (bodyU 3 u) ∧ Below w.heap.size w w' := by
  have HA := Lib.hid (Blk.new w (u.cells gv) 25)
  have HL := Lib.hid ((Below.refl w.heap.size w).alloc (Nat.le_refl _) (Obj.cells (u.cells gv).toArray 25))
  obtain ⟨ki, nu, nm, sz, su, of, da, wy, an, me, gs⟩ := u
  obtain ⟨-, -, -, -, hi5, hi6, hi7, hi8, hi9, hi10, hi11, hi12, -⟩ := hi
  simp only [Un.cells, Un.val, bodyU] at HA HL hi5 hi6 hi7 hi8 hi11 hi12 ⊢
  have H1 := Lib.hid (fun W => ubytes_new wy 1 W (by omega) hi11 hi12)
  have H2 := Lib.hid (fun W => ubytes_new sz 2 W (by omega) hi5 hi6)
  have H4 := Lib.hid (fun W => ubytes_new su 4 W (by omega) (by omega) (by omega))
  clear hG hs
  go_enter Try.func50, Try.ntmps50
  go_wp2_with fail
  refine gen_world (fun w' => Blk w' w.heap.size _ 25 ∧ Below w.heap.size w w') ⟨HA.out, HL.out⟩ ?_
  clear HA HL
  rintro v ⟨hA, hL⟩
  have HA := Lib.hid hA; have HL := Lib.hid hL
  clear hA hL
  have x0 := HA.out.cell 0
  have x1 := HA.out.cell 1
  have x2 := HA.out.cell 2
  have x3 := HA.out.cell 3
  have x4 := HA.out.cell 4
  have x5 := HA.out.cell 5
  have x6 := HA.out.cell 6
  have x7 := HA.out.cell 7
  have x8 := HA.out.cell 8
  have x9 := HA.out.cell 9
  have x10 := HA.out.cell 10
  simp only [List.getElem?_cons_zero, List.getElem?_cons_succ] at x0 x1 x2 x3 x4 x5 x6 x7 x8 x9 x10
  clear x0 x1 x2 x5 x6 x8 x9 x10
  have hws : IntKind.i64.wrap su = su := IntWalk.i64_in _ (by omega)
  go_region_law (first | (refine step_call rfl 24 #[.tmp 4, .const (.int .i64 1)] _ rfl #[.int .i64 wy, .int .i64 1] (by kernel_rfl) _ (H1.out _) ?_; rintro va wa ⟨hRa, hLa⟩; obtain ⟨aa, ca, rfl⟩ := row_form hRa; have hBa : Blk wa w.heap.size [.int .i64 ki, .int .i64 nu, .string nm, .int .i64 sz, .int .u32 su, .int .i64 of, .string da, .int .i64 wy, .int .i64 an, .bool me, gv] 25 := (by first | exact HA.out.drew.below hLa HA.out.lt | exact hBb.below hLa hBb.lt | exact hBc.below hLa hBc.lt); have hWa : Below v.heap.size v wa := (by first | exact (below_quiet v 1).1.trans hLa | exact hWb.trans (hLa.mono hWb.size) | exact hWc.trans (hLa.mono hWc.size)); have ya3 := hBa.cell 3; simp only [List.getElem?_cons_zero, List.getElem?_cons_succ] at ya3; have ya4 := hBa.cell 4; simp only [List.getElem?_cons_zero, List.getElem?_cons_succ] at ya4; have ya7 := hBa.cell 7; simp only [List.getElem?_cons_zero, List.getElem?_cons_succ] at ya7) | (refine step_call rfl 24 #[.tmp 7, .const (.int .i64 2)] _ rfl #[.int .i64 sz, .int .i64 2] (by kernel_rfl) _ (H2.out _) ?_; rintro vb wb ⟨hRb, hLb⟩; obtain ⟨ab, cb, rfl⟩ := row_form hRb; have hBb : Blk wb w.heap.size [.int .i64 ki, .int .i64 nu, .string nm, .int .i64 sz, .int .u32 su, .int .i64 of, .string da, .int .i64 wy, .int .i64 an, .bool me, gv] 25 := (by first | exact HA.out.drew.below hLb HA.out.lt | exact hBa.below hLb hBa.lt | exact hBc.below hLb hBc.lt); have hWb : Below v.heap.size v wb := (by first | exact (below_quiet v 1).1.trans hLb | exact hWa.trans (hLb.mono hWa.size) | exact hWc.trans (hLb.mono hWc.size)); have yb3 := hBb.cell 3; simp only [List.getElem?_cons_zero, List.getElem?_cons_succ] at yb3; have yb4 := hBb.cell 4; simp only [List.getElem?_cons_zero, List.getElem?_cons_succ] at yb4; have yb7 := hBb.cell 7; simp only [List.getElem?_cons_zero, List.getElem?_cons_succ] at yb7) | (refine step_call rfl 24 #[.tmp 11, .const (.int .i64 4)] _ rfl #[.int .i64 su, .int .i64 4] (by kernel_rfl) _ (H4.out _) ?_; rintro vc wc ⟨hRc, hLc⟩; obtain ⟨ac, cc, rfl⟩ := row_form hRc; have hBc : Blk wc w.heap.size [.int .i64 ki, .int .i64 nu, .string nm, .int .i64 sz, .int .u32 su, .int .i64 of, .string da, .int .i64 wy, .int .i64 an, .bool me, gv] 25 := (by first | exact HA.out.drew.below hLc HA.out.lt | exact hBa.below hLc hBa.lt | exact hBb.below hLc hBb.lt); have hWc : Below v.heap.size v wc := (by first | exact (below_quiet v 1).1.trans hLc | exact hWa.trans (hLc.mono hWa.size) | exact hWb.trans (hLc.mono hWb.size)); have yc3 := hBc.cell 3; simp only [List.getElem?_cons_zero, List.getElem?_cons_succ] at yc3; have yc4 := hBc.cell 4; simp only [List.getElem?_cons_zero, List.getElem?_cons_succ] at yc4; have yc7 := hBc.cell 7; simp only [List.getElem?_cons_zero, List.getElem?_cons_succ] at yc7) | (first | (refine step_call rfl 51 _ _ rfl #[.slice (some ⟨wa.heap.size, 0, none⟩) 3 3] (by kernel_rfl) _ (concat_arm wa _ _ _ _ _ _ (by first | exact hRa | exact row_below hRa hLb (Nat.le_refl _) | exact row_below hRa hLc (Nat.le_refl _) | exact row_below (row_below hRa hLb (Nat.le_refl _)) hLc (Nat.le_refl _) | exact row_below (row_below hRa hLc (Nat.le_refl _)) hLb (Nat.le_refl _)) (by first | exact hRb | exact row_below hRb hLa (Nat.le_refl _) | exact row_below hRb hLc (Nat.le_refl _) | exact row_below (row_below hRb hLa (Nat.le_refl _)) hLc (Nat.le_refl _) | exact row_below (row_below hRb hLc (Nat.le_refl _)) hLa (Nat.le_refl _)) (by first | exact hRc | exact row_below hRc hLa (Nat.le_refl _) | exact row_below hRc hLb (Nat.le_refl _) | exact row_below (row_below hRc hLa (Nat.le_refl _)) hLb (Nat.le_refl _) | exact row_below (row_below hRc hLb (Nat.le_refl _)) hLa (Nat.le_refl _)) (by simp [beN_length])) ?_; rintro vd wd ⟨hRd, hLd⟩; have hWd := hWa.trans (hLd.mono hWa.size); have hRe := row_mono hRd hWa.size) | (refine step_call rfl 51 _ _ rfl #[.slice (some ⟨wb.heap.size, 0, none⟩) 3 3] (by kernel_rfl) _ (concat_arm wb _ _ _ _ _ _ (by first | exact hRa | exact row_below hRa hLb (Nat.le_refl _) | exact row_below hRa hLc (Nat.le_refl _) | exact row_below (row_below hRa hLb (Nat.le_refl _)) hLc (Nat.le_refl _) | exact row_below (row_below hRa hLc (Nat.le_refl _)) hLb (Nat.le_refl _)) (by first | exact hRb | exact row_below hRb hLa (Nat.le_refl _) | exact row_below hRb hLc (Nat.le_refl _) | exact row_below (row_below hRb hLa (Nat.le_refl _)) hLc (Nat.le_refl _) | exact row_below (row_below hRb hLc (Nat.le_refl _)) hLa (Nat.le_refl _)) (by first | exact hRc | exact row_below hRc hLa (Nat.le_refl _) | exact row_below hRc hLb (Nat.le_refl _) | exact row_below (row_below hRc hLa (Nat.le_refl _)) hLb (Nat.le_refl _) | exact row_below (row_below hRc hLb (Nat.le_refl _)) hLa (Nat.le_refl _)) (by simp [beN_length])) ?_; rintro vd wd ⟨hRd, hLd⟩; have hWd := hWb.trans (hLd.mono hWb.size); have hRe := row_mono hRd hWb.size) | (refine step_call rfl 51 _ _ rfl #[.slice (some ⟨wc.heap.size, 0, none⟩) 3 3] (by kernel_rfl) _ (concat_arm wc _ _ _ _ _ _ (by first | exact hRa | exact row_below hRa hLb (Nat.le_refl _) | exact row_below hRa hLc (Nat.le_refl _) | exact row_below (row_below hRa hLb (Nat.le_refl _)) hLc (Nat.le_refl _) | exact row_below (row_below hRa hLc (Nat.le_refl _)) hLb (Nat.le_refl _)) (by first | exact hRb | exact row_below hRb hLa (Nat.le_refl _) | exact row_below hRb hLc (Nat.le_refl _) | exact row_below (row_below hRb hLa (Nat.le_refl _)) hLc (Nat.le_refl _) | exact row_below (row_below hRb hLc (Nat.le_refl _)) hLa (Nat.le_refl _)) (by first | exact hRc | exact row_below hRc hLa (Nat.le_refl _) | exact row_below hRc hLb (Nat.le_refl _) | exact row_below (row_below hRc hLa (Nat.le_refl _)) hLb (Nat.le_refl _) | exact row_below (row_below hRc hLb (Nat.le_refl _)) hLa (Nat.le_refl _)) (by simp [beN_length])) ?_; rintro vd wd ⟨hRd, hLd⟩; have hWd := hWc.trans (hLd.mono hWc.size); have hRe := row_mono hRd hWc.size)))
  all_goals
    go_wp2_with fail
    go_ret
    exact ⟨_, rfl, row_mono hRe HL.out.size, HL.out.trans (hWd.mono HL.out.size)⟩
end Go.Proofs.Ytkpgenmlpkfokaa
