/- What is proved here: what a step of the pair is to answer; the walk of a step in which a unit, or a bypass unit, is sent. -/
import Derived.Test.YtbncejmohhejlaaPw6
import Derived.Test.YtbncejmohhejlaaF7
set_option linter.unusedVariables false
set_option linter.unusedSimpArgs false
namespace Go.Proofs.Ytbncejmohhejlaa
open Go.RowKit
section
structure Sz (c : Nat) (p : Pr) (ups : List (Option Nat)) (dws : List Dw) : Prop where
  un : p.units.length ≤ c
  ul : ups.length ≤ 2 * c
  dl : dws.length ≤ 2 * c
def Fin (k n0 L : Nat) (tm : Int) (c : Nat) (p : Pr) : Prop :=
  (∃ ups dws b, Inv k n0 L tm p ups dws b ∧ Sz c p ups dws) ∨ (p.alert = 1 ∧ p.f.st.lockout = false ∧ p.f.half ≠ 0 ∧ p.acked ≤ p.acc.length ∧ p.acc.length ≤ p.units.length)
theorem Inv.fin {k n0 L : Nat} {tm : Int} {c : Nat} {p : Pr} {ups : List (Option Nat)} {dws : List Dw} {b : Nat} (h : Inv k n0 L tm p ups dws b) (h1 : p.units.length ≤ c) (h2 : ups.length ≤ 2 * c) (h3 : dws.length ≤ 2 * c) : Fin k n0 L tm c p := .inl ⟨ups, dws, b, h, h1, h2, h3⟩
/-- What a step is to answer. -/
def Stepped (k n0 L : Nat) (tm : Int) (c : Nat) (w : World) (P gf gg : Nat) (e : Ending) (w' : World) : Prop :=
  e = .returned (.bool true) ∧ ∃ uv dv nv av p, PairAt w w' P gf gg uv dv nv av p ∧ Fin k n0 L tm c p
section
variable {k n0 L : Nat} {tm : Int} {c : Nat} {p : Pr} {ups : List (Option Nat)} {dws : List Dw} {b : Nat} {w W : World} {P gf gg : Nat} {uv dv nv av : Value}
set_option maxHeartbeats 8000000 in
set_option maxRecDepth 100000 in
theorem act_byp (hI : Inv k n0 L tm p ups dws b) (hS : Sz c p ups dws) (n : Int) (m : Nat) (hn : I64 n) (hm : (m : Int) = n % 640) (hc : m % 16 = 2) (hP : PairAt w W P gf gg uv dv nv av p) :
    Calls Try.prog 26 #[.pointer (some ⟨P, 0, none⟩), .int .i64 n] W fun e w' => Stepped k n0 L tm (c + 1) w P gf gg e w' := by
  have HB := Lib.hid (show ∀ (S1 : List Nat) (W1 : World), FopIn W1 gf S1 p.s → Calls Try.prog 21 #[.pointer (some ⟨gf, 0, none⟩), .string bypD] W1 fun e w' => e = .returned (.int .i64 (bypR p.s bypD).2) ∧ FopTo W1 w' gf S1 (bypR p.s bypD).1 from fun S1 W1 h => Bypass_all p.s bypD gf S1 W1 hI.fine (by kernel_rfl) h)
  have hF : Fin k n0 L tm (c + 1) { p with s := (bypR p.s bypD).1 } := by
    have h1 := hS.un; have h2 := hS.ul; have h3 := hS.dl
    unfold bypR
    split
    · rename_i hl
      exact (hI.bypass hl).fin (by show p.units.length ≤ _; omega) (by omega) (by omega)
    · exact hI.fin (by omega) (by omega) (by omega)
  have HF := Lib.hid hF
  have HP := Lib.hid hP
  have HK := Lib.hid (fun W => pick_any n 640 W (by omega) (by omega) hn.1 hn.2)
  rw [← hm] at HK
  have c0 := hP.blk.cell 0
  simp only [pairCells, List.getElem?_cons_zero, List.getElem?_cons_succ] at c0
  have hc2 : ((m : Int) % 16) = 2 := by omega
  clear hI hS hF hP hm hn
  go_enter Try.func26, Try.ntmps26
  go_wp2_with fail
  refine (HK.out _).mono ?_
  rintro e _ ⟨rfl, rfl⟩
  clear HK
  go_wp2_with fail
  obtain ⟨S1, hI, hlt, hnx, hgv⟩ := HP.out.fop.call
  refine (HB.out S1 _ hI).mono ?_
  rintro e W2 ⟨rfl, hT⟩
  obtain ⟨hX, hR⟩ := hnx hT
  have HP2 := Lib.hid (HP.out.call hX hR)
  clear hI hlt hnx hgv hX hR hT HP
  go_wp2_with fail
  go_ret
  exact ⟨rfl, _, _, _, _, _, HP2.out, HF.out⟩
end
end
section
def u8 (x : Int) : UInt8 := UInt8.ofNat (x % 256).toNat
theorem u8_of (x : Int) : IntKind.u8.wrap x = ((u8 x).toNat : Int) := by
  unfold u8
  rw [IntKind.wrap_u8', UInt8.toNat_ofNat']; omega
theorem step_build_3 {ops : Array Oper} {o : Oper} {a : Act} {W : World} {K : Act → World → Prop} {Q : Exit → Act → World → Prop} {E : Prop} (t E0 : TypeId) (cs : List Value) (hgd : o.guard = none) (x y z : Operand)
    (ho : o.op = .buildSlice t 3 #[(0, x), (1, y), (2, z)]) (v v2 v3 : Value) (hx : a.eval x = v) (hy : a.eval y = v2) (hz : a.eval z = v3) (hrun : (Instr.buildSlice t 3 #[(0, v), (1, v2), (2, v3)]).run Try.prog W = .ok (.slice (some ⟨W.heap.size, 0, none⟩) 3 3) (W.alloc (.cells cs.toArray E0)))
    (h : K (a.put o.dst (.slice (some ⟨W.heap.size, 0, none⟩) 3 3)) (W.alloc (.cells cs.toArray E0))) :
    if Region.wanted o (yielded ops a.tmps) = true then Oper.wp Try.prog o a W K Q else E := by
  have hw : Region.wanted o (yielded ops a.tmps) = true := by simp [Region.wanted, hgd]
  rw [if_pos hw]
  have hr : (execOp a.eval o).run Try.prog W = .ok (.value (.slice (some ⟨W.heap.size, 0, none⟩) 3 3)) (W.alloc (.cells cs.toArray E0)) := by
    unfold execOp
    simp only [ho]
    simp only [List.map_toArray, List.map_cons, List.map_nil, hx, hy, hz, Sem.run_bind, Sem.run_pure, hrun, Result.andThen_ok]
  unfold Oper.wp
  rw [hr]
  exact h
theorem build_u3 (W : World) (a b c : Int) : (Instr.buildSlice 51 3 #[(0, .int .u8 a), (1, .int .u8 b), (2, .int .u8 c)]).run Try.prog W = .ok (.slice (some ⟨W.heap.size, 0, none⟩) 3 3) (W.alloc (Obj.cells [.int .u8 a, .int .u8 b, .int .u8 c].toArray 5)) := by kernel_rfl
theorem bytes3_string (W : World) (a b c : Int) :
    (convert 51 9 (.slice (some ⟨W.heap.size, 0, none⟩) 3 3)).run Try.prog (W.alloc (.cells #[.int .u8 (IntKind.u8.wrap a), .int .u8 (IntKind.u8.wrap b), .int .u8 (IntKind.u8.wrap c)] 5)).drew = .ok (.string ⟨#[u8 a, u8 b, u8 c]⟩) (W.alloc (.cells #[.int .u8 (IntKind.u8.wrap a), .int .u8 (IntKind.u8.wrap b), .int .u8 (IntKind.u8.wrap c)] 5)).drew := by
  rw [u8_of, u8_of, u8_of]
  exact run_string (base := W.heap.size) (xs := [u8 a, u8 b, u8 c]) (.inr ⟨W.heap.size, 3, _, _, rfl, Nat.le_refl _, heap_alloc_new W _, .inl rfl, Nat.le_refl _, by decide, rfl, rfl⟩)
section
variable {k n0 L : Nat} {tm : Int} {c : Nat} {p : Pr} {ups : List (Option Nat)} {dws : List Dw} {b : Nat} {w W : World} {P gf gg : Nat} {uv dv nv av : Value}
set_option maxHeartbeats 8000000 in
set_option maxRecDepth 100000 in
theorem act_send0 (hI : Inv k n0 L tm p ups dws b) (hS : Sz c p ups dws) (hcc : c ≤ 3000) (n : Int) (m : Nat) (hn : I64 n) (hm : (m : Int) = n % 640) (hc : m % 16 = 0) (hP : PairAt w W P gf gg uv dv nv av p) :
    Calls Try.prog 26 #[.pointer (some ⟨P, 0, none⟩), .int .i64 n] W fun e w' => Stepped k n0 L tm (c + 1) w P gf gg e w' := by
  have HP := Lib.hid hP
  have HK := Lib.hid (fun W => pick_any n 640 W (by omega) (by omega) hn.1 hn.2)
  rw [← hm] at HK
  obtain ⟨na, nc, hnv⟩ := qform hP.units
  subst hnv
  have c0 := hP.blk.cell 0; have c4 := hP.blk.cell 4
  simp only [pairCells, List.getElem?_cons_zero, List.getElem?_cons_succ] at c0 c4
  have hc2 : ((m : Int) % 16) = 0 := by omega
  have h1 := hS.un; have h2 := hS.ul; have h3 := hS.dl
  have hsd : ∀ d : ByteArray, d.size = 3 → ∀ (S1 : List Nat) (W1 : World), FopIn W1 gf S1 p.s →
      (p.s.waiting.length < 256 → Calls Try.prog 16 #[.pointer (some ⟨gf, 0, none⟩), .string d] W1 fun e w' => e = .returned (.tuple #[.int .i64 (p.s.last + 1), .int .i64 0]) ∧ FopTo W1 w' gf S1 (sendF p.s d)) ∧
      (¬ p.s.waiting.length < 256 → Calls Try.prog 16 #[.pointer (some ⟨gf, 0, none⟩), .string d] W1 fun e w' => e = .returned (.tuple #[.int .i64 0, .int .i64 5]) ∧ FopTo W1 w' gf S1 p.s) := by
    intro d hd S1 W1 hin
    have h := Send_all p.s d gf S1 W1 hI.fine (by unfold unfitF; rw [hd]; rfl) hI.serv (by rw [hI.last]; omega) (by rw [hI.last]; omega) hin
    unfold sendR at h
    exact ⟨fun hw => by rw [if_pos hw] at h; exact h, fun hw => by rw [if_neg hw] at h; exact h⟩
  have HSD := Lib.hid hsd
  have hF : (p.s.waiting.length < 256 → ∀ d : ByteArray, d.size = 3 → Fin k n0 L tm (c + 1) { p with s := sendF p.s d, units := p.units ++ [d] }) ∧ (¬ p.s.waiting.length < 256 → Fin k n0 L tm (c + 1) { p with s := p.s }) :=
    ⟨fun hw d hd => (hI.send d (by omega) hw).fin (by show (p.units ++ [d]).length ≤ _; rw [List.length_append, List.length_singleton]; omega) (by omega) (by omega), fun _ => hI.fin (by show p.units.length ≤ _; omega) (by omega) (by omega)⟩
  have HF := Lib.hid hF
  have hul : p.units.length ≤ 3000 := by omega
  clear hI hS hP hm hn h1 h2 h3 hsd hF
  go_enter Try.func26, Try.ntmps26
  go_wp2_with fail
  refine (HK.out _).mono ?_
  rintro e _ ⟨rfl, rfl⟩
  clear HK
  go_upto_region 5 with fail
  refine region_end (fun W' => Keep [] W W') 17 (by kernel_rfl) ((Keep.refl _ _).drew) (fun hInv hHeld => ?_)
  have x0 : ∀ W', Keep [] W W' → W'.cell? ⟨P, 4, none⟩ = some (.slice na p.units.length nc) := fun W' k => (HP.out.blk.keep k (by simp)).cell 4
  refine WpEnd.take (i := 0) (some 20) (v := ?_) rfl rfl (by kernel_rfl) (by kernel_rfl) (by kernel_rfl) (fun _ _ _ h => h) (by kernel_rfl) hInv (by assumption) (by rfl) ?_ (fun hInv2 => ?_)
  rotate_left
  · (intro w hSw; (try dsimp only at hSw); have hSx := x0 _ hSw; go_simp; (try with_reducible rfl))
  clear hInv; have hInv := hInv2; clear hInv2
  simp only [Act.put, List.setIfInBounds_toArray, List.set_cons_zero, List.set_cons_succ]
  refine WpEnd.take (i := 1) (some 21) (v := ?_) rfl rfl (by kernel_rfl) (by kernel_rfl) (by kernel_rfl) (fun _ _ _ h => h) (by kernel_rfl) hInv (by assumption) (by rfl) ?_ (fun hInv2 => ?_)
  rotate_left
  · (intro w hSw; (try dsimp only at hSw); have hSx := x0 _ hSw; go_simp; (try with_reducible rfl))
  clear hInv; have hInv := hInv2; clear hInv2
  simp only [Act.put, List.setIfInBounds_toArray, List.set_cons_zero, List.set_cons_succ]
  refine WpEnd.take (i := 2) (some 22) (v := ?_) rfl rfl (by kernel_rfl) (by kernel_rfl) (by kernel_rfl) (fun _ _ _ h => h) (by kernel_rfl) hInv (by assumption) (by rfl) ?_ (fun hInv2 => ?_)
  rotate_left
  · (intro w hSw; (try dsimp only at hSw); have hSx := x0 _ hSw; go_simp; (try with_reducible rfl))
  clear hInv; have hInv := hInv2; clear hInv2
  simp only [Act.put, List.setIfInBounds_toArray, List.set_cons_zero, List.set_cons_succ]
  refine WpEnd.take (i := 3) (some 23) (v := ?_) rfl rfl (by kernel_rfl) (by kernel_rfl) (by kernel_rfl) (fun _ _ _ h => h) (by kernel_rfl) hInv (by assumption) (by rfl) ?_ (fun hInv2 => ?_)
  rotate_left
  · (intro w hSw; (try dsimp only at hSw); have hSx := x0 _ hSw; go_simp; (try with_reducible rfl))
  clear hInv; have hInv := hInv2; clear hInv2
  simp only [Act.put, List.setIfInBounds_toArray, List.set_cons_zero, List.set_cons_succ]
  refine WpEnd.take (i := 4) (some 24) (v := ?_) rfl rfl (by kernel_rfl) (by kernel_rfl) (by kernel_rfl) (fun _ _ _ h => h) (by kernel_rfl) hInv (by assumption) (by rfl) ?_ (fun hInv2 => ?_)
  rotate_left
  · (intro w hSw; (try dsimp only at hSw); have hSx := x0 _ hSw; go_simp; (try with_reducible rfl))
  clear hInv; have hInv := hInv2; clear hInv2
  simp only [Act.put, List.setIfInBounds_toArray, List.set_cons_zero, List.set_cons_succ]
  refine WpEnd.take (i := 5) (some 25) (v := ?_) rfl rfl (by kernel_rfl) (by kernel_rfl) (by kernel_rfl) (fun _ _ _ h => h) (by kernel_rfl) hInv (by assumption) (by rfl) ?_ (fun hInv2 => ?_)
  rotate_left
  · (intro w hSw; (try dsimp only at hSw); have hSx := x0 _ hSw; go_simp; (try with_reducible rfl))
  clear hInv; have hInv := hInv2; clear hInv2
  simp only [Act.put, List.setIfInBounds_toArray, List.set_cons_zero, List.set_cons_succ]
  refine WpEnd.take (i := 6) (some 26) (v := ?_) rfl rfl (by kernel_rfl) (by kernel_rfl) (by kernel_rfl) (fun _ _ _ h => h) (by kernel_rfl) hInv (by assumption) (by rfl) ?_ (fun hInv2 => ?_)
  rotate_left
  · (intro w hSw; (try dsimp only at hSw); have hSx := x0 _ hSw; go_simp; (try with_reducible rfl))
  clear hInv; have hInv := hInv2; clear hInv2
  simp only [Act.put, List.setIfInBounds_toArray, List.set_cons_zero, List.set_cons_succ]
  refine WpEnd.take (i := 7) (some 27) (v := ?_) rfl rfl (by kernel_rfl) (by kernel_rfl) (by kernel_rfl) (fun _ _ _ h => h) (by kernel_rfl) hInv (by assumption) (by rfl) ?_ (fun hInv2 => ?_)
  rotate_left
  · (intro w hSw; (try dsimp only at hSw); have hSx := x0 _ hSw; go_simp; (try with_reducible rfl))
  clear hInv; have hInv := hInv2; clear hInv2
  simp only [Act.put, List.setIfInBounds_toArray, List.set_cons_zero, List.set_cons_succ]
  refine WpEnd.take (i := 8) (some 28) (v := ?_) rfl rfl (by kernel_rfl) (by kernel_rfl) (by kernel_rfl) (fun _ _ _ h => h) (by kernel_rfl) hInv (by assumption) (by rfl) ?_ (fun hInv2 => ?_)
  rotate_left
  · (intro w hSw; (try dsimp only at hSw); have hSx := x0 _ hSw; go_simp; (try with_reducible rfl))
  clear hInv; have hInv := hInv2; clear hInv2
  simp only [Act.put, List.setIfInBounds_toArray, List.set_cons_zero, List.set_cons_succ]
  refine WpEnd.take (i := 9) (some 29) (v := ?_) rfl rfl (by kernel_rfl) (by kernel_rfl) (by kernel_rfl) (fun _ _ _ h => h) (by kernel_rfl) hInv (by assumption) (by rfl) ?_ (fun hInv2 => ?_)
  rotate_left
  · (intro w hSw; (try dsimp only at hSw); have hSx := x0 _ hSw; go_simp; (try with_reducible rfl))
  clear hInv; have hInv := hInv2; clear hInv2
  simp only [Act.put, List.setIfInBounds_toArray, List.set_cons_zero, List.set_cons_succ]
  refine WpEnd.take (i := 10) (some 30) (v := ?_) rfl rfl (by kernel_rfl) (by kernel_rfl) (by kernel_rfl) (fun _ _ _ h => h) (by kernel_rfl) hInv (by assumption) (by rfl) ?_ (fun hInv2 => ?_)
  rotate_left
  · (intro w hSw; (try dsimp only at hSw); have hSx := x0 _ hSw; go_simp; (try with_reducible rfl))
  clear hInv; have hInv := hInv2; clear hInv2
  simp only [Act.put, List.setIfInBounds_toArray, List.set_cons_zero, List.set_cons_succ]
  refine WpEnd.take (i := 11) (some 31) (v := ?_) rfl rfl (by kernel_rfl) (by kernel_rfl) (by kernel_rfl) (fun _ _ _ h => h) (by kernel_rfl) hInv (by assumption) (by rfl) ?_ (fun hInv2 => ?_)
  rotate_left
  · (intro w hSw; (try dsimp only at hSw); have hSx := x0 _ hSw; go_simp; (try with_reducible rfl))
  clear hInv; have hInv := hInv2; clear hInv2
  simp only [Act.put, List.setIfInBounds_toArray, List.set_cons_zero, List.set_cons_succ]
  refine WpEnd.take (i := 12) (some 32) (v := ?_) rfl rfl (by kernel_rfl) (by kernel_rfl) (by kernel_rfl) (fun _ _ _ h => h) (by kernel_rfl) hInv (by assumption) (by rfl) ?_ (fun hInv2 => ?_)
  rotate_left
  · (intro w hSw; (try dsimp only at hSw); have hSx := x0 _ hSw; go_simp; (try with_reducible rfl))
  clear hInv; have hInv := hInv2; clear hInv2
  simp only [Act.put, List.setIfInBounds_toArray, List.set_cons_zero, List.set_cons_succ]
  refine WpEnd.take (i := 13) (some 33) (v := ?_) rfl rfl (by kernel_rfl) (by kernel_rfl) (by kernel_rfl) (fun _ _ _ h => h) (by kernel_rfl) hInv (by assumption) (by rfl) ?_ (fun hInv2 => ?_)
  rotate_left
  · (intro w hSw; (try dsimp only at hSw); have hSx := x0 _ hSw; go_simp; (try with_reducible rfl))
  clear hInv; have hInv := hInv2; clear hInv2
  simp only [Act.put, List.setIfInBounds_toArray, List.set_cons_zero, List.set_cons_succ]
  refine WpEnd.take (i := 14) (some 34) (v := ?_) rfl rfl (by kernel_rfl) (by kernel_rfl) (by kernel_rfl) (fun _ _ _ h => h) (by kernel_rfl) hInv (by assumption) (by rfl) ?_ (fun hInv2 => ?_)
  rotate_left
  · (intro w hSw; (try dsimp only at hSw); have hSx := x0 _ hSw; go_simp; (try with_reducible rfl))
  clear hInv; have hInv := hInv2; clear hInv2
  simp only [Act.put, List.setIfInBounds_toArray, List.set_cons_zero, List.set_cons_succ]
  refine WpEnd.ready (rs := [15]) (by kernel_rfl) (by simp) ?_
  refine EachEnd.cons (some 35) rfl rfl (by decide) (by kernel_rfl) hInv (fun K hKK hKB => ?_) EachEnd.nil
  refine step_build_3 51 5 ([.int .u8 (IntKind.u8.wrap (p.units.length : Int)), .int .u8 (IntKind.u8.wrap (IntKind.i64.wrap ((p.units.length : Int) / 256))), .int .u8 (IntKind.u8.wrap (m : Int))]) rfl _ _ _ rfl _ _ _ rfl rfl rfl (build_u3 _ _ _ _) ?_
  have hbs := bytes3_string W (p.units.length : Int) (IntKind.i64.wrap ((p.units.length : Int) / 256)) (m : Int)
  have hsz : W.drew.heap.size = W.heap.size := rfl
  rw [hsz]
  have hK1 : Keep [] W (W.drew.alloc (Obj.cells ([.int .u8 (IntKind.u8.wrap (p.units.length : Int)), .int .u8 (IntKind.u8.wrap (IntKind.i64.wrap ((p.units.length : Int) / 256))), .int .u8 (IntKind.u8.wrap (m : Int))]).toArray 5)) := ((Keep.refl _ _).drew).alloc _
  have hB1 : Below W.heap.size W (W.drew.alloc (Obj.cells ([.int .u8 (IntKind.u8.wrap (p.units.length : Int)), .int .u8 (IntKind.u8.wrap (IntKind.i64.wrap ((p.units.length : Int) / 256))), .int .u8 (IntKind.u8.wrap (m : Int))]).toArray 5)) := ((Below.refl _ _).drew).alloc (Nat.le_refl _) _
  refine hKK.out _ _ hK1 (fun hInv2 hHeld2 => ?_)
  clear hKK hKB K hInv hHeld
  have hInv := hInv2; clear hInv2
  simp only [Act.put, List.setIfInBounds_toArray, List.set_cons_zero, List.set_cons_succ]
  refine WpEnd.ready (rs := [16]) (by kernel_rfl) (by simp) ?_
  refine EachEnd.cons (some 36) rfl rfl (by decide) (by kernel_rfl) hInv (fun K hKK hKB => ?_) EachEnd.nil
  go_simp
  refine hKB.out _ _ hK1 (fun hInv2 hHeld2 => ?_)
  clear hKK hKB K hInv hHeld2
  have hInv := hInv2; clear hInv2
  refine WpEnd.ready (rs := [17]) (by kernel_rfl) (by simp) ?_
  refine EachEnd.last rfl (fun K hKK => ?_)
  go_simp
  refine hKK.out _ _ ?_
  clear hKK K
  refine WpEnd.done (by kernel_rfl) ?_ _
  obtain ⟨d, hdd⟩ : ∃ d : ByteArray, d = ⟨#[u8 (p.units.length : Int), u8 (IntKind.i64.wrap ((p.units.length : Int) / 256)), u8 (m : Int)]⟩ := ⟨_, rfl⟩
  have hd : d.size = 3 := by rw [hdd]; rfl
  rw [← hdd]
  refine post_any (fun W' => PairAt w W' P gf gg uv dv (.slice na p.units.length nc) av p) (HP.out.below hB1) ?_
  clear hdd hB1 hK1 hbs hInv x0 hsz HP c0 c4
  rintro W1 hP1
  have HP := Lib.hid hP1; clear hP1
  have HSD := Lib.hid (HSD.out d hd)
  have c0 := HP.out.blk.cell 0
  simp only [pairCells, List.getElem?_cons_zero, List.getElem?_cons_succ] at c0
  go_wp2_with fail
  obtain ⟨S1, hI, hlt, hnx, hgv⟩ := HP.out.fop.call
  by_cases hw : p.s.waiting.length < 256
  · refine ((HSD.out S1 _ hI).1 hw).mono ?_
    rintro e W2 ⟨rfl, hT⟩
    obtain ⟨hX, hR⟩ := hnx hT
    have HP2 := Lib.hid (HP.out.call hX hR)
    have HF2 := Lib.hid (HF.out.1 hw d hd)
    clear hI hlt hnx hgv hX hR hT HP HSD HF c0
    obtain ⟨i0, hi0, hz0, hz1, hz2⟩ := info_parts info_s1
    have HX := Lib.hid (Blk.new W2 [.string d] 9)
    have hL : Below W2.heap.size W2 (W2.alloc (Obj.cells #[.string d] 9)) := (Below.refl _ _).alloc (Nat.le_refl _) _
    have HL := Lib.hid hL
    have HI := Lib.hid hi0; have HZ0 := Lib.hid hz0; have HZ1 := Lib.hid hz1; have HZ2 := Lib.hid hz2
    have c4 := HP2.out.blk.cell 4
    have e4 := (HP2.out.below hL).blk.cell 4
    simp only [pairCells, List.getElem?_cons_zero, List.getElem?_cons_succ] at c4 e4
    clear hL hi0 hz0 hz1 hz2 hw
    go_wp2_with (refine wpList_append_q _ rfl _ _ 62 9 1 16 i0 (.string ⟨#[]⟩) rfl Try.underlying62 HI.out HZ0.out rfl HZ1.out HZ2.out 0 (.slice na p.units.length nc) p.units.length _ rfl (q_below HP2.out.units HL.out (Nat.le_refl _)) W2.heap.size 0 1 1 [.string d] rfl rfl (by intro u hu; simp at hu; subst hu; rfl) (fun j u hj => by rw [Nat.zero_add]; exact (HX.out.cell j).trans hj) (by omega) (by unfold maxLen; omega) (Nat.zero_le _) ?_)
    intro v' Wd hq2 hk2 hm2
    have hS := ((Keep.refl _ _).below HL.out (Nat.le_refl _)).trans hk2
    have f4 := (HP2.out.sure (v := (.slice na p.units.length nc)) (by simp) hS).1.free 4
    have g4 := (HP2.out.sure (v := (.slice na p.units.length nc)) (by simp) hS).1.cell 4
    simp only [pairCells, List.getElem?_cons_zero, List.getElem?_cons_succ] at g4
    have hP3 := HP2.out.pushUnits (l := p.units ++ [d]) HL.out hk2 (by simpa using hm2) (by simpa [stRow_snoc] using hq2)
    obtain ⟨ra, rc, hve⟩ := qform hq2
    subst hve
    have HP3 := Lib.hid hP3
    clear hP3 hS hq2 hk2 hm2 c4 e4
    go_wp2_with fail
    go_ret
    exact ⟨rfl, _, _, _, _, _, HP3.out, HF2.out⟩
  · refine ((HSD.out S1 _ hI).2 hw).mono ?_
    rintro e W2 ⟨rfl, hT⟩
    obtain ⟨hX, hR⟩ := hnx hT
    have HP2 := Lib.hid (HP.out.call hX hR)
    have HF2 := Lib.hid (HF.out.2 hw)
    clear hI hlt hnx hgv hX hR hT HP HSD HF c0 hw
    go_wp2_with fail
    go_ret
    exact ⟨rfl, _, _, _, _, _, HP2.out, HF2.out⟩
set_option maxHeartbeats 8000000 in
set_option maxRecDepth 100000 in
theorem act_send1 (hI : Inv k n0 L tm p ups dws b) (hS : Sz c p ups dws) (hcc : c ≤ 3000) (n : Int) (m : Nat) (hn : I64 n) (hm : (m : Int) = n % 640) (hc : m % 16 = 1) (hP : PairAt w W P gf gg uv dv nv av p) :
    Calls Try.prog 26 #[.pointer (some ⟨P, 0, none⟩), .int .i64 n] W fun e w' => Stepped k n0 L tm (c + 1) w P gf gg e w' := by
  have HP := Lib.hid hP
  have HK := Lib.hid (fun W => pick_any n 640 W (by omega) (by omega) hn.1 hn.2)
  rw [← hm] at HK
  obtain ⟨na, nc, hnv⟩ := qform hP.units
  subst hnv
  have c0 := hP.blk.cell 0; have c4 := hP.blk.cell 4
  simp only [pairCells, List.getElem?_cons_zero, List.getElem?_cons_succ] at c0 c4
  have hc2 : ((m : Int) % 16) = 1 := by omega
  have h1 := hS.un; have h2 := hS.ul; have h3 := hS.dl
  have hsd : ∀ d : ByteArray, d.size = 3 → ∀ (S1 : List Nat) (W1 : World), FopIn W1 gf S1 p.s →
      (p.s.waiting.length < 256 → Calls Try.prog 16 #[.pointer (some ⟨gf, 0, none⟩), .string d] W1 fun e w' => e = .returned (.tuple #[.int .i64 (p.s.last + 1), .int .i64 0]) ∧ FopTo W1 w' gf S1 (sendF p.s d)) ∧
      (¬ p.s.waiting.length < 256 → Calls Try.prog 16 #[.pointer (some ⟨gf, 0, none⟩), .string d] W1 fun e w' => e = .returned (.tuple #[.int .i64 0, .int .i64 5]) ∧ FopTo W1 w' gf S1 p.s) := by
    intro d hd S1 W1 hin
    have h := Send_all p.s d gf S1 W1 hI.fine (by unfold unfitF; rw [hd]; rfl) hI.serv (by rw [hI.last]; omega) (by rw [hI.last]; omega) hin
    unfold sendR at h
    exact ⟨fun hw => by rw [if_pos hw] at h; exact h, fun hw => by rw [if_neg hw] at h; exact h⟩
  have HSD := Lib.hid hsd
  have hF : (p.s.waiting.length < 256 → ∀ d : ByteArray, d.size = 3 → Fin k n0 L tm (c + 1) { p with s := sendF p.s d, units := p.units ++ [d] }) ∧ (¬ p.s.waiting.length < 256 → Fin k n0 L tm (c + 1) { p with s := p.s }) :=
    ⟨fun hw d hd => (hI.send d (by omega) hw).fin (by show (p.units ++ [d]).length ≤ _; rw [List.length_append, List.length_singleton]; omega) (by omega) (by omega), fun _ => hI.fin (by show p.units.length ≤ _; omega) (by omega) (by omega)⟩
  have HF := Lib.hid hF
  have hul : p.units.length ≤ 3000 := by omega
  clear hI hS hP hm hn h1 h2 h3 hsd hF
  go_enter Try.func26, Try.ntmps26
  go_wp2_with fail
  refine (HK.out _).mono ?_
  rintro e _ ⟨rfl, rfl⟩
  clear HK
  go_upto_region 5 with fail
  refine region_end (fun W' => Keep [] W W') 17 (by kernel_rfl) ((Keep.refl _ _).drew) (fun hInv hHeld => ?_)
  have x0 : ∀ W', Keep [] W W' → W'.cell? ⟨P, 4, none⟩ = some (.slice na p.units.length nc) := fun W' k => (HP.out.blk.keep k (by simp)).cell 4
  refine WpEnd.take (i := 0) (some 20) (v := ?_) rfl rfl (by kernel_rfl) (by kernel_rfl) (by kernel_rfl) (fun _ _ _ h => h) (by kernel_rfl) hInv (by assumption) (by rfl) ?_ (fun hInv2 => ?_)
  rotate_left
  · (intro w hSw; (try dsimp only at hSw); have hSx := x0 _ hSw; go_simp; (try with_reducible rfl))
  clear hInv; have hInv := hInv2; clear hInv2
  simp only [Act.put, List.setIfInBounds_toArray, List.set_cons_zero, List.set_cons_succ]
  refine WpEnd.take (i := 1) (some 21) (v := ?_) rfl rfl (by kernel_rfl) (by kernel_rfl) (by kernel_rfl) (fun _ _ _ h => h) (by kernel_rfl) hInv (by assumption) (by rfl) ?_ (fun hInv2 => ?_)
  rotate_left
  · (intro w hSw; (try dsimp only at hSw); have hSx := x0 _ hSw; go_simp; (try with_reducible rfl))
  clear hInv; have hInv := hInv2; clear hInv2
  simp only [Act.put, List.setIfInBounds_toArray, List.set_cons_zero, List.set_cons_succ]
  refine WpEnd.take (i := 2) (some 22) (v := ?_) rfl rfl (by kernel_rfl) (by kernel_rfl) (by kernel_rfl) (fun _ _ _ h => h) (by kernel_rfl) hInv (by assumption) (by rfl) ?_ (fun hInv2 => ?_)
  rotate_left
  · (intro w hSw; (try dsimp only at hSw); have hSx := x0 _ hSw; go_simp; (try with_reducible rfl))
  clear hInv; have hInv := hInv2; clear hInv2
  simp only [Act.put, List.setIfInBounds_toArray, List.set_cons_zero, List.set_cons_succ]
  refine WpEnd.take (i := 3) (some 23) (v := ?_) rfl rfl (by kernel_rfl) (by kernel_rfl) (by kernel_rfl) (fun _ _ _ h => h) (by kernel_rfl) hInv (by assumption) (by rfl) ?_ (fun hInv2 => ?_)
  rotate_left
  · (intro w hSw; (try dsimp only at hSw); have hSx := x0 _ hSw; go_simp; (try with_reducible rfl))
  clear hInv; have hInv := hInv2; clear hInv2
  simp only [Act.put, List.setIfInBounds_toArray, List.set_cons_zero, List.set_cons_succ]
  refine WpEnd.take (i := 4) (some 24) (v := ?_) rfl rfl (by kernel_rfl) (by kernel_rfl) (by kernel_rfl) (fun _ _ _ h => h) (by kernel_rfl) hInv (by assumption) (by rfl) ?_ (fun hInv2 => ?_)
  rotate_left
  · (intro w hSw; (try dsimp only at hSw); have hSx := x0 _ hSw; go_simp; (try with_reducible rfl))
  clear hInv; have hInv := hInv2; clear hInv2
  simp only [Act.put, List.setIfInBounds_toArray, List.set_cons_zero, List.set_cons_succ]
  refine WpEnd.take (i := 5) (some 25) (v := ?_) rfl rfl (by kernel_rfl) (by kernel_rfl) (by kernel_rfl) (fun _ _ _ h => h) (by kernel_rfl) hInv (by assumption) (by rfl) ?_ (fun hInv2 => ?_)
  rotate_left
  · (intro w hSw; (try dsimp only at hSw); have hSx := x0 _ hSw; go_simp; (try with_reducible rfl))
  clear hInv; have hInv := hInv2; clear hInv2
  simp only [Act.put, List.setIfInBounds_toArray, List.set_cons_zero, List.set_cons_succ]
  refine WpEnd.take (i := 6) (some 26) (v := ?_) rfl rfl (by kernel_rfl) (by kernel_rfl) (by kernel_rfl) (fun _ _ _ h => h) (by kernel_rfl) hInv (by assumption) (by rfl) ?_ (fun hInv2 => ?_)
  rotate_left
  · (intro w hSw; (try dsimp only at hSw); have hSx := x0 _ hSw; go_simp; (try with_reducible rfl))
  clear hInv; have hInv := hInv2; clear hInv2
  simp only [Act.put, List.setIfInBounds_toArray, List.set_cons_zero, List.set_cons_succ]
  refine WpEnd.take (i := 7) (some 27) (v := ?_) rfl rfl (by kernel_rfl) (by kernel_rfl) (by kernel_rfl) (fun _ _ _ h => h) (by kernel_rfl) hInv (by assumption) (by rfl) ?_ (fun hInv2 => ?_)
  rotate_left
  · (intro w hSw; (try dsimp only at hSw); have hSx := x0 _ hSw; go_simp; (try with_reducible rfl))
  clear hInv; have hInv := hInv2; clear hInv2
  simp only [Act.put, List.setIfInBounds_toArray, List.set_cons_zero, List.set_cons_succ]
  refine WpEnd.take (i := 8) (some 28) (v := ?_) rfl rfl (by kernel_rfl) (by kernel_rfl) (by kernel_rfl) (fun _ _ _ h => h) (by kernel_rfl) hInv (by assumption) (by rfl) ?_ (fun hInv2 => ?_)
  rotate_left
  · (intro w hSw; (try dsimp only at hSw); have hSx := x0 _ hSw; go_simp; (try with_reducible rfl))
  clear hInv; have hInv := hInv2; clear hInv2
  simp only [Act.put, List.setIfInBounds_toArray, List.set_cons_zero, List.set_cons_succ]
  refine WpEnd.take (i := 9) (some 29) (v := ?_) rfl rfl (by kernel_rfl) (by kernel_rfl) (by kernel_rfl) (fun _ _ _ h => h) (by kernel_rfl) hInv (by assumption) (by rfl) ?_ (fun hInv2 => ?_)
  rotate_left
  · (intro w hSw; (try dsimp only at hSw); have hSx := x0 _ hSw; go_simp; (try with_reducible rfl))
  clear hInv; have hInv := hInv2; clear hInv2
  simp only [Act.put, List.setIfInBounds_toArray, List.set_cons_zero, List.set_cons_succ]
  refine WpEnd.take (i := 10) (some 30) (v := ?_) rfl rfl (by kernel_rfl) (by kernel_rfl) (by kernel_rfl) (fun _ _ _ h => h) (by kernel_rfl) hInv (by assumption) (by rfl) ?_ (fun hInv2 => ?_)
  rotate_left
  · (intro w hSw; (try dsimp only at hSw); have hSx := x0 _ hSw; go_simp; (try with_reducible rfl))
  clear hInv; have hInv := hInv2; clear hInv2
  simp only [Act.put, List.setIfInBounds_toArray, List.set_cons_zero, List.set_cons_succ]
  refine WpEnd.take (i := 11) (some 31) (v := ?_) rfl rfl (by kernel_rfl) (by kernel_rfl) (by kernel_rfl) (fun _ _ _ h => h) (by kernel_rfl) hInv (by assumption) (by rfl) ?_ (fun hInv2 => ?_)
  rotate_left
  · (intro w hSw; (try dsimp only at hSw); have hSx := x0 _ hSw; go_simp; (try with_reducible rfl))
  clear hInv; have hInv := hInv2; clear hInv2
  simp only [Act.put, List.setIfInBounds_toArray, List.set_cons_zero, List.set_cons_succ]
  refine WpEnd.take (i := 12) (some 32) (v := ?_) rfl rfl (by kernel_rfl) (by kernel_rfl) (by kernel_rfl) (fun _ _ _ h => h) (by kernel_rfl) hInv (by assumption) (by rfl) ?_ (fun hInv2 => ?_)
  rotate_left
  · (intro w hSw; (try dsimp only at hSw); have hSx := x0 _ hSw; go_simp; (try with_reducible rfl))
  clear hInv; have hInv := hInv2; clear hInv2
  simp only [Act.put, List.setIfInBounds_toArray, List.set_cons_zero, List.set_cons_succ]
  refine WpEnd.take (i := 13) (some 33) (v := ?_) rfl rfl (by kernel_rfl) (by kernel_rfl) (by kernel_rfl) (fun _ _ _ h => h) (by kernel_rfl) hInv (by assumption) (by rfl) ?_ (fun hInv2 => ?_)
  rotate_left
  · (intro w hSw; (try dsimp only at hSw); have hSx := x0 _ hSw; go_simp; (try with_reducible rfl))
  clear hInv; have hInv := hInv2; clear hInv2
  simp only [Act.put, List.setIfInBounds_toArray, List.set_cons_zero, List.set_cons_succ]
  refine WpEnd.take (i := 14) (some 34) (v := ?_) rfl rfl (by kernel_rfl) (by kernel_rfl) (by kernel_rfl) (fun _ _ _ h => h) (by kernel_rfl) hInv (by assumption) (by rfl) ?_ (fun hInv2 => ?_)
  rotate_left
  · (intro w hSw; (try dsimp only at hSw); have hSx := x0 _ hSw; go_simp; (try with_reducible rfl))
  clear hInv; have hInv := hInv2; clear hInv2
  simp only [Act.put, List.setIfInBounds_toArray, List.set_cons_zero, List.set_cons_succ]
  refine WpEnd.ready (rs := [15]) (by kernel_rfl) (by simp) ?_
  refine EachEnd.cons (some 35) rfl rfl (by decide) (by kernel_rfl) hInv (fun K hKK hKB => ?_) EachEnd.nil
  refine step_build_3 51 5 ([.int .u8 (IntKind.u8.wrap (p.units.length : Int)), .int .u8 (IntKind.u8.wrap (IntKind.i64.wrap ((p.units.length : Int) / 256))), .int .u8 (IntKind.u8.wrap (m : Int))]) rfl _ _ _ rfl _ _ _ rfl rfl rfl (build_u3 _ _ _ _) ?_
  have hbs := bytes3_string W (p.units.length : Int) (IntKind.i64.wrap ((p.units.length : Int) / 256)) (m : Int)
  have hsz : W.drew.heap.size = W.heap.size := rfl
  rw [hsz]
  have hK1 : Keep [] W (W.drew.alloc (Obj.cells ([.int .u8 (IntKind.u8.wrap (p.units.length : Int)), .int .u8 (IntKind.u8.wrap (IntKind.i64.wrap ((p.units.length : Int) / 256))), .int .u8 (IntKind.u8.wrap (m : Int))]).toArray 5)) := ((Keep.refl _ _).drew).alloc _
  have hB1 : Below W.heap.size W (W.drew.alloc (Obj.cells ([.int .u8 (IntKind.u8.wrap (p.units.length : Int)), .int .u8 (IntKind.u8.wrap (IntKind.i64.wrap ((p.units.length : Int) / 256))), .int .u8 (IntKind.u8.wrap (m : Int))]).toArray 5)) := ((Below.refl _ _).drew).alloc (Nat.le_refl _) _
  refine hKK.out _ _ hK1 (fun hInv2 hHeld2 => ?_)
  clear hKK hKB K hInv hHeld
  have hInv := hInv2; clear hInv2
  simp only [Act.put, List.setIfInBounds_toArray, List.set_cons_zero, List.set_cons_succ]
  refine WpEnd.ready (rs := [16]) (by kernel_rfl) (by simp) ?_
  refine EachEnd.cons (some 36) rfl rfl (by decide) (by kernel_rfl) hInv (fun K hKK hKB => ?_) EachEnd.nil
  go_simp
  refine hKB.out _ _ hK1 (fun hInv2 hHeld2 => ?_)
  clear hKK hKB K hInv hHeld2
  have hInv := hInv2; clear hInv2
  refine WpEnd.ready (rs := [17]) (by kernel_rfl) (by simp) ?_
  refine EachEnd.last rfl (fun K hKK => ?_)
  go_simp
  refine hKK.out _ _ ?_
  clear hKK K
  refine WpEnd.done (by kernel_rfl) ?_ _
  obtain ⟨d, hdd⟩ : ∃ d : ByteArray, d = ⟨#[u8 (p.units.length : Int), u8 (IntKind.i64.wrap ((p.units.length : Int) / 256)), u8 (m : Int)]⟩ := ⟨_, rfl⟩
  have hd : d.size = 3 := by rw [hdd]; rfl
  rw [← hdd]
  refine post_any (fun W' => PairAt w W' P gf gg uv dv (.slice na p.units.length nc) av p) (HP.out.below hB1) ?_
  clear hdd hB1 hK1 hbs hInv x0 hsz HP c0 c4
  rintro W1 hP1
  have HP := Lib.hid hP1; clear hP1
  have HSD := Lib.hid (HSD.out d hd)
  have c0 := HP.out.blk.cell 0
  simp only [pairCells, List.getElem?_cons_zero, List.getElem?_cons_succ] at c0
  go_wp2_with fail
  obtain ⟨S1, hI, hlt, hnx, hgv⟩ := HP.out.fop.call
  by_cases hw : p.s.waiting.length < 256
  · refine ((HSD.out S1 _ hI).1 hw).mono ?_
    rintro e W2 ⟨rfl, hT⟩
    obtain ⟨hX, hR⟩ := hnx hT
    have HP2 := Lib.hid (HP.out.call hX hR)
    have HF2 := Lib.hid (HF.out.1 hw d hd)
    clear hI hlt hnx hgv hX hR hT HP HSD HF c0
    obtain ⟨i0, hi0, hz0, hz1, hz2⟩ := info_parts info_s1
    have HX := Lib.hid (Blk.new W2 [.string d] 9)
    have hL : Below W2.heap.size W2 (W2.alloc (Obj.cells #[.string d] 9)) := (Below.refl _ _).alloc (Nat.le_refl _) _
    have HL := Lib.hid hL
    have HI := Lib.hid hi0; have HZ0 := Lib.hid hz0; have HZ1 := Lib.hid hz1; have HZ2 := Lib.hid hz2
    have c4 := HP2.out.blk.cell 4
    have e4 := (HP2.out.below hL).blk.cell 4
    simp only [pairCells, List.getElem?_cons_zero, List.getElem?_cons_succ] at c4 e4
    clear hL hi0 hz0 hz1 hz2 hw
    go_wp2_with (refine wpList_append_q _ rfl _ _ 62 9 1 16 i0 (.string ⟨#[]⟩) rfl Try.underlying62 HI.out HZ0.out rfl HZ1.out HZ2.out 0 (.slice na p.units.length nc) p.units.length _ rfl (q_below HP2.out.units HL.out (Nat.le_refl _)) W2.heap.size 0 1 1 [.string d] rfl rfl (by intro u hu; simp at hu; subst hu; rfl) (fun j u hj => by rw [Nat.zero_add]; exact (HX.out.cell j).trans hj) (by omega) (by unfold maxLen; omega) (Nat.zero_le _) ?_)
    intro v' Wd hq2 hk2 hm2
    have hS := ((Keep.refl _ _).below HL.out (Nat.le_refl _)).trans hk2
    have f4 := (HP2.out.sure (v := (.slice na p.units.length nc)) (by simp) hS).1.free 4
    have g4 := (HP2.out.sure (v := (.slice na p.units.length nc)) (by simp) hS).1.cell 4
    simp only [pairCells, List.getElem?_cons_zero, List.getElem?_cons_succ] at g4
    have hP3 := HP2.out.pushUnits (l := p.units ++ [d]) HL.out hk2 (by simpa using hm2) (by simpa [stRow_snoc] using hq2)
    obtain ⟨ra, rc, hve⟩ := qform hq2
    subst hve
    have HP3 := Lib.hid hP3
    clear hP3 hS hq2 hk2 hm2 c4 e4
    go_wp2_with fail
    go_ret
    exact ⟨rfl, _, _, _, _, _, HP3.out, HF2.out⟩
  · refine ((HSD.out S1 _ hI).2 hw).mono ?_
    rintro e W2 ⟨rfl, hT⟩
    obtain ⟨hX, hR⟩ := hnx hT
    have HP2 := Lib.hid (HP.out.call hX hR)
    have HF2 := Lib.hid (HF.out.2 hw)
    clear hI hlt hnx hgv hX hR hT HP HSD HF c0 hw
    go_wp2_with fail
    go_ret
    exact ⟨rfl, _, _, _, _, _, HP2.out, HF2.out⟩
end
end
section
section
variable {k n0 L : Nat} {tm : Int} {c : Nat} {p : Pr} {ups : List (Option Nat)} {dws : List Dw} {b : Nat} {w W : World} {P gf gg : Nat} {uv dv nv av : Value}
/-- What the automaton on the ground gives, and the pair behind it. -/
theorem next_fin (hI : Inv k n0 L tm p ups dws b) (hS : Sz c p ups dws) : Fin k n0 L tm (c + 1) { p with s := (nextF p.s).1 } ∧
    ∀ x, (nextF p.s).2 = some x → Fin k n0 L tm (c + 1) { { p with s := (nextF p.s).1 } with up := p.up ++ [x] } ∧ Fin k n0 L tm (c + 1) { { p with s := (nextF p.s).1 } with up := (p.up ++ [x]) ++ [x] } := by
  have h1 := hS.un; have h2 := hS.ul; have h3 := hS.dl
  obtain ⟨hN, hx⟩ := hI.next
  refine ⟨hN.fin (by show p.units.length ≤ _; omega) (by omega) (by omega), fun x hxx => ?_⟩
  obtain ⟨o, rfl, ho⟩ := hx x hxx
  have p1 := hN.push o ho
  have p2 := p1.push o ho
  refine ⟨p1.fin (by show p.units.length ≤ _; omega) (by simp; omega) (by omega), p2.fin (by show p.units.length ≤ _; omega) (by simp; omega) (by omega)⟩
set_option maxHeartbeats 8000000 in
set_option maxRecDepth 100000 in
theorem act_next3 (hI : Inv k n0 L tm p ups dws b) (hS : Sz c p ups dws) (hcc : c ≤ 3000) (n : Int) (m : Nat) (hn : I64 n) (hm : (m : Int) = n % 640) (hc : m % 16 = 3) (hP : PairAt w W P gf gg uv dv nv av p) :
    Calls Try.prog 26 #[.pointer (some ⟨P, 0, none⟩), .int .i64 n] W fun e w' => Stepped k n0 L tm (c + 1) w P gf gg e w' := by
  have HN := Lib.hid (fun S1 (W1 : World) (hl : ∀ i ∈ S1, i < W1.heap.size) h => Next_all p.s gf S1 W1 hI.fine hl h)
  have hF := next_fin hI hS
  have hul : p.up.length ≤ 6000 := by have := hS.ul; rw [hI.hup, List.length_map]; omega
  obtain ⟨X, hX⟩ : ∃ X, X = nextF p.s := ⟨_, rfl⟩
  rw [← hX] at HN hF
  clear hX
  obtain ⟨s', ox⟩ := X
  simp only at HN hF
  have HF := Lib.hid hF
  have HP := Lib.hid hP
  have HK := Lib.hid (fun W => pick_any n 640 W (by omega) (by omega) hn.1 hn.2)
  rw [← hm] at HK
  have c0 := hP.blk.cell 0
  simp only [pairCells, List.getElem?_cons_zero, List.getElem?_cons_succ] at c0
  have hc2 : ((m : Int) % 16) = 3 := by omega
  clear hI hS hF hP hm hn
  go_enter Try.func26, Try.ntmps26
  go_wp2_with fail
  refine (HK.out _).mono ?_
  rintro e _ ⟨rfl, rfl⟩
  clear HK
  go_wp2_with fail
  obtain ⟨S1, hI, hlt, hnx, hgv⟩ := HP.out.fop.call
  refine (HN.out S1 _ hlt hI).mono ?_
  rintro e W2 ⟨rfl, hT⟩
  obtain ⟨hX, hR⟩ := hnx hT
  have HP2 := Lib.hid (HP.out.call hX hR)
  clear hI hlt hnx hgv hX hR hT HP HN c0
  cases ox with
  | none =>
    have hPz := HP2.out.below ((Below.refl _ _).alloc (Nat.le_refl _) (Obj.cells #[.int .i64 0, .int .i64 0, .bool false, .bool false, .int .i64 0, .string ⟨#[]⟩] 31))
    have HPZ := Lib.hid hPz
    clear hPz HP2
    simp only [tcV, Option.isSome]
    go_wp2_with fail
    go_ret
    exact ⟨rfl, _, _, _, _, _, HPZ.out, HF.out.1⟩
  | some y =>
    have HF2 := Lib.hid (HF.out.2 y rfl)
    have HF1 := Lib.hid HF.out.1
    clear HF
    obtain ⟨cr, chn, by_, ck, sq, d⟩ := y
    simp only [tcV, Option.isSome]
    obtain ⟨r, hr⟩ : ∃ r, r = W2.heap.size := ⟨_, rfl⟩
    have hPz := HP2.out.below ((Below.refl _ _).alloc (Nat.le_refl _) (Obj.cells #[.int .i64 cr, .int .i64 chn, .bool by_, .bool ck, .int .i64 sq, .string d] 31))
    have hX := Blk.new W2 [.int .i64 cr, .int .i64 chn, .bool by_, .bool ck, .int .i64 sq, .string d] 31
    rw [← hr] at hX
    have hlt := HP2.out.fop.lt
    rw [← hr] at hlt
    have hrP : r ≠ P := fun e => by have := (hlt P PairAt.hP).2; omega
    have hru : r ∉ uv.ownBlock.toList := fun hm => by have := (hlt r (in_blocks (v := uv) (by simp) (by simpa using hm))).2; omega
    have HPZ := Lib.hid hPz; have HX := Lib.hid hX
    clear hPz hX hlt HP2
    go_upto_region 18 with fail
    rw [← hr]
    refine gen_world (fun W => PairAt w W P gf gg uv dv nv av { p with s := s' } ∧ Blk W r [.int .i64 cr, .int .i64 chn, .bool by_, .bool ck, .int .i64 sq, .string d] 31) ⟨HPZ.out, HX.out⟩ ?_
    clear HPZ HX hr HF1
    rintro W3 ⟨hPz, hX⟩
    have HPZ := Lib.hid hPz; have HX := Lib.hid hX
    clear hPz hX
    obtain ⟨i0, hi0, hz0, hz1, hz2⟩ := info_parts info_tc
    have x0 : ∀ W', Keep uv.ownBlock.toList W3 W' → (W'.cell? ⟨P, 2, none⟩ = some uv ∧ W'.cell? ⟨r, 0, none⟩ = some (.int .i64 cr) ∧ W'.cell? ⟨r, 1, none⟩ = some (.int .i64 chn) ∧ W'.cell? ⟨r, 2, none⟩ = some (.bool by_) ∧ W'.cell? ⟨r, 3, none⟩ = some (.bool ck) ∧ W'.cell? ⟨r, 4, none⟩ = some (.int .i64 sq) ∧ W'.cell? ⟨r, 5, none⟩ = some (.string d)) := fun W' k => ⟨(HPZ.out.sure (v := uv) (by simp) k).1.cell 2, (HX.out.keep k hru).cell 0, (HX.out.keep k hru).cell 1, (HX.out.keep k hru).cell 2, (HX.out.keep k hru).cell 3, (HX.out.keep k hru).cell 4, (HX.out.keep k hru).cell 5⟩
    refine region_end (fun W' => Keep uv.ownBlock.toList W3 W') 10 (by kernel_rfl) ((Keep.refl _ _).drew) (fun hInv hHeld => ?_)
    have hL0 : Below W3.heap.size W3 W3.drew := (Below.refl _ _).drew
    refine WpEnd.take (i := 0) (some 90) (v := ?_) rfl rfl (by kernel_rfl) (by kernel_rfl) (by kernel_rfl) (fun _ _ _ h => h) (by kernel_rfl) hInv (by assumption) (by rfl) ?_ (fun hInv2 => ?_)
    rotate_left
    · (intro w hSw; (try dsimp only at hSw); have hSx := x0 _ hSw; go_simp; (try with_reducible rfl))
    clear hInv; have hInv := hInv2; clear hInv2
    simp only [Act.put, List.setIfInBounds_toArray, List.set_cons_zero, List.set_cons_succ]
    refine WpEnd.take (i := 1) (some 91) (v := ?_) rfl rfl (by kernel_rfl) (by kernel_rfl) (by kernel_rfl) (fun _ _ _ h => h) (by kernel_rfl) hInv (by assumption) (by rfl) ?_ (fun hInv2 => ?_)
    rotate_left
    · (intro w hSw; (try dsimp only at hSw); have hSx := x0 _ hSw; go_simp; (try with_reducible rfl))
    clear hInv; have hInv := hInv2; clear hInv2
    simp only [Act.put, List.setIfInBounds_toArray, List.set_cons_zero, List.set_cons_succ]
    refine WpEnd.take (i := 2) (some 92) (v := ?_) rfl rfl (by kernel_rfl) (by kernel_rfl) (by kernel_rfl) (fun _ _ _ h => h) (by kernel_rfl) hInv (by assumption) (by rfl) ?_ (fun hInv2 => ?_)
    rotate_left
    · (intro w hSw; (try dsimp only at hSw); have hSx := x0 _ hSw; go_simp; (try with_reducible rfl))
    clear hInv; have hInv := hInv2; clear hInv2
    simp only [Act.put, List.setIfInBounds_toArray, List.set_cons_zero, List.set_cons_succ]
    refine WpEnd.take (i := 3) (some 93) (v := ?_) rfl rfl (by kernel_rfl) (by kernel_rfl) (by kernel_rfl) (fun _ _ _ h => h) (by kernel_rfl) hInv (by assumption) (by rfl) ?_ (fun hInv2 => ?_)
    rotate_left
    · (intro w hSw; (try dsimp only at hSw); have hSx := x0 _ hSw; go_simp; (try with_reducible rfl))
    clear hInv; have hInv := hInv2; clear hInv2
    simp only [Act.put, List.setIfInBounds_toArray, List.set_cons_zero, List.set_cons_succ]
    refine WpEnd.take (i := 4) (some 94) (v := ?_) rfl rfl (by kernel_rfl) (by kernel_rfl) (by kernel_rfl) (fun _ _ _ h => h) (by kernel_rfl) hInv (by assumption) (by rfl) ?_ (fun hInv2 => ?_)
    rotate_left
    · (intro w hSw; (try dsimp only at hSw); have hSx := x0 _ hSw; go_simp; (try with_reducible rfl))
    clear hInv; have hInv := hInv2; clear hInv2
    simp only [Act.put, List.setIfInBounds_toArray, List.set_cons_zero, List.set_cons_succ]
    refine WpEnd.take (i := 5) (some 95) (v := ?_) rfl rfl (by kernel_rfl) (by kernel_rfl) (by kernel_rfl) (fun _ _ _ h => h) (by kernel_rfl) hInv (by assumption) (by rfl) ?_ (fun hInv2 => ?_)
    rotate_left
    · (intro w hSw; (try dsimp only at hSw); have hSx := x0 _ hSw; go_simp; (try with_reducible rfl))
    clear hInv; have hInv := hInv2; clear hInv2
    simp only [Act.put, List.setIfInBounds_toArray, List.set_cons_zero, List.set_cons_succ]
    refine WpEnd.ready (rs := [6]) (by kernel_rfl) (by simp) ?_
    refine EachEnd.cons (some 96) rfl rfl (by decide) (by kernel_rfl) hInv (fun K hKK hKB => ?_) EachEnd.nil
    refine step_build_1 76 31 ([.int .i64 cr, .int .i64 chn, .bool by_, .bool ck, .int .i64 sq, .string d]) rfl _ rfl _ rfl (build_tc _ (⟨cr, chn, by_, ck, sq, d⟩ : Tc)) ?_
    have hL1 := hL0.alloc hL0.size (Obj.cells ([.int .i64 cr, .int .i64 chn, .bool by_, .bool ck, .int .i64 sq, .string d]).toArray 31)
    have hy1 := Blk.new W3.drew ([.int .i64 cr, .int .i64 chn, .bool by_, .bool ck, .int .i64 sq, .string d]) 31
    obtain ⟨nb, hnb⟩ : ∃ nb, nb = (W3.drew).heap.size := ⟨_, rfl⟩
    rw [← hnb] at hy1 ⊢
    obtain ⟨Wb, hWb⟩ : ∃ Wb, Wb = (W3.drew).alloc (Obj.cells ([.int .i64 cr, .int .i64 chn, .bool by_, .bool ck, .int .i64 sq, .string d]).toArray 31) := ⟨_, rfl⟩
    rw [← hWb] at hL1 hy1 ⊢
    refine hKK.out _ _ ((Keep.refl _ _).below hL1 (Nat.le_refl _)) (fun hInv2 hHeld2 => ?_)
    clear hKK hKB K hWb hnb hInv hHeld; have hInv := hInv2; have hHeld := hHeld2; clear hInv2 hHeld2
    simp only [Act.put, List.setIfInBounds_toArray, List.set_cons_zero, List.set_cons_succ]
    refine WpEnd.ready (rs := [7]) (by kernel_rfl) (by simp) ?_
    refine EachEnd.cons (some 97) rfl rfl (by decide) (by kernel_rfl) hInv (fun K hKK hKB => ?_) EachEnd.nil
    refine step_append_q 76 31 6 48 i0 (.agg #[.int .i64 0, .int .i64 0, .bool false, .bool false, .int .i64 0, .string ⟨#[]⟩]) rfl _ _ rfl Try.underlying76 hi0 hz0 rfl hz1 hz2 0 uv p.up.length _ rfl (q_below HPZ.out.up hL1 (Nat.le_refl _)) nb 0 1 1 ([.int .i64 cr, .int .i64 chn, .bool by_, .bool ck, .int .i64 sq, .string d]) rfl rfl (by intro u hu; simp at hu; rcases hu with rfl | rfl | rfl | rfl | rfl | rfl <;> rfl) (fun j u hj => by rw [Nat.zero_add]; exact (hy1.cell j).trans hj) (by omega) (by unfold maxLen; omega) (Nat.zero_le _) ?_
    intro v' Wd hq2 hk2 hm2
    refine hKK.out _ _ (((Keep.refl _ _).below hL1 (Nat.le_refl _)).trans hk2) (fun hInv2 hHeld2 => ?_)
    clear hKK hKB K hInv hHeld; have hInv := hInv2; have hHeld := hHeld2; clear hInv2 hHeld2
    simp only [Act.put, List.setIfInBounds_toArray, List.set_cons_zero, List.set_cons_succ]
    refine WpEnd.take (i := 8) (some 98) (v := ?_) rfl rfl (by kernel_rfl) (by kernel_rfl) (by kernel_rfl) (fun _ _ _ h => h) (by kernel_rfl) hInv (by assumption) (by rfl) ?_ (fun hInv2 => ?_)
    rotate_left
    · (intro w hSw; (try dsimp only at hSw); have hSx := x0 _ hSw; go_simp; (try with_reducible rfl))
    clear hInv; have hInv := hInv2; clear hInv2
    simp only [Act.put, List.setIfInBounds_toArray, List.set_cons_zero, List.set_cons_succ]
    refine WpEnd.take (i := 9) (some 99) (v := ?_) rfl rfl (by kernel_rfl) (by kernel_rfl) (by kernel_rfl) (fun _ _ _ h => h) (by kernel_rfl) hInv (by assumption) (by rfl) ?_ (fun hInv2 => ?_)
    rotate_left
    · (intro w hSw; (try dsimp only at hSw); have hSx := x0 _ hSw; go_simp; (try with_reducible rfl))
    clear hInv; have hInv := hInv2; clear hInv2
    simp only [Act.put, List.setIfInBounds_toArray, List.set_cons_zero, List.set_cons_succ]
    refine WpEnd.ready (rs := [10]) (by kernel_rfl) (by simp) ?_
    refine EachEnd.last rfl (fun K hKK => ?_)
    have c0 := (HPZ.out.sure (v := uv) (by simp) hHeld).1.cell 2
    have f0 := (HPZ.out.sure (v := uv) (by simp) hHeld).1.free 2
    simp only [pairCells, List.getElem?_cons_zero, List.getElem?_cons_succ] at c0
    have hP3 := HPZ.out.pushUp (l := (p.up ++ [(⟨cr, chn, by_, ck, sq, d⟩ : Tc)])) hL1 hk2 hm2 (by simp only [List.length_append, List.length_singleton, tcRow_snoc]; exact hq2)
    obtain ⟨ra, rc, hve⟩ := qform hq2
    subst hve
    go_simp
    refine hKK.out _ _ ?_
    clear hKK K
    refine WpEnd.done (by kernel_rfl) ?_ _
    refine post_any (fun W' => PairAt w W' P gf gg (.slice ra (p.up.length + 1) rc) dv nv av { { p with s := s' } with up := (p.up ++ [(⟨cr, chn, by_, ck, sq, d⟩ : Tc)]) }) hP3 ?_
    clear hP3  hm2 hq2 hk2 hy1 hL1 hL0 hHeld hInv c0 f0 x0 hi0 hz0 hz1 hz2 i0 
    rintro W4 hP4
    have HP4 := Lib.hid hP4
    clear hP4 HPZ HX
    go_wp2_with fail
    go_ret
    exact ⟨rfl, _, _, _, _, _, HP4.out, HF2.out.1⟩
set_option maxHeartbeats 8000000 in
set_option maxRecDepth 100000 in
theorem act_next4 (hI : Inv k n0 L tm p ups dws b) (hS : Sz c p ups dws) (hcc : c ≤ 3000) (n : Int) (m : Nat) (hn : I64 n) (hm : (m : Int) = n % 640) (hc : m % 16 = 4) (hP : PairAt w W P gf gg uv dv nv av p) :
    Calls Try.prog 26 #[.pointer (some ⟨P, 0, none⟩), .int .i64 n] W fun e w' => Stepped k n0 L tm (c + 1) w P gf gg e w' := by
  have HN := Lib.hid (fun S1 (W1 : World) (hl : ∀ i ∈ S1, i < W1.heap.size) h => Next_all p.s gf S1 W1 hI.fine hl h)
  have hF := next_fin hI hS
  have hul : p.up.length ≤ 6000 := by have := hS.ul; rw [hI.hup, List.length_map]; omega
  obtain ⟨X, hX⟩ : ∃ X, X = nextF p.s := ⟨_, rfl⟩
  rw [← hX] at HN hF
  clear hX
  obtain ⟨s', ox⟩ := X
  simp only at HN hF
  have HF := Lib.hid hF
  have HP := Lib.hid hP
  have HK := Lib.hid (fun W => pick_any n 640 W (by omega) (by omega) hn.1 hn.2)
  rw [← hm] at HK
  have c0 := hP.blk.cell 0
  simp only [pairCells, List.getElem?_cons_zero, List.getElem?_cons_succ] at c0
  have hc2 : ((m : Int) % 16) = 4 := by omega
  clear hI hS hF hP hm hn
  go_enter Try.func26, Try.ntmps26
  go_wp2_with fail
  refine (HK.out _).mono ?_
  rintro e _ ⟨rfl, rfl⟩
  clear HK
  go_wp2_with fail
  obtain ⟨S1, hI, hlt, hnx, hgv⟩ := HP.out.fop.call
  refine (HN.out S1 _ hlt hI).mono ?_
  rintro e W2 ⟨rfl, hT⟩
  obtain ⟨hX, hR⟩ := hnx hT
  have HP2 := Lib.hid (HP.out.call hX hR)
  clear hI hlt hnx hgv hX hR hT HP HN c0
  cases ox with
  | none =>
    have hPz := HP2.out.below ((Below.refl _ _).alloc (Nat.le_refl _) (Obj.cells #[.int .i64 0, .int .i64 0, .bool false, .bool false, .int .i64 0, .string ⟨#[]⟩] 31))
    have HPZ := Lib.hid hPz
    clear hPz HP2
    simp only [tcV, Option.isSome]
    go_wp2_with fail
    go_ret
    exact ⟨rfl, _, _, _, _, _, HPZ.out, HF.out.1⟩
  | some y =>
    have HF2 := Lib.hid (HF.out.2 y rfl)
    have HF1 := Lib.hid HF.out.1
    clear HF
    obtain ⟨cr, chn, by_, ck, sq, d⟩ := y
    simp only [tcV, Option.isSome]
    obtain ⟨r, hr⟩ : ∃ r, r = W2.heap.size := ⟨_, rfl⟩
    have hPz := HP2.out.below ((Below.refl _ _).alloc (Nat.le_refl _) (Obj.cells #[.int .i64 cr, .int .i64 chn, .bool by_, .bool ck, .int .i64 sq, .string d] 31))
    have hX := Blk.new W2 [.int .i64 cr, .int .i64 chn, .bool by_, .bool ck, .int .i64 sq, .string d] 31
    rw [← hr] at hX
    have hlt := HP2.out.fop.lt
    rw [← hr] at hlt
    have hrP : r ≠ P := fun e => by have := (hlt P PairAt.hP).2; omega
    have hru : r ∉ uv.ownBlock.toList := fun hm => by have := (hlt r (in_blocks (v := uv) (by simp) (by simpa using hm))).2; omega
    have HPZ := Lib.hid hPz; have HX := Lib.hid hX
    clear hPz hX hlt HP2
    go_upto_region 18 with fail
    rw [← hr]
    refine gen_world (fun W => PairAt w W P gf gg uv dv nv av { p with s := s' } ∧ Blk W r [.int .i64 cr, .int .i64 chn, .bool by_, .bool ck, .int .i64 sq, .string d] 31) ⟨HPZ.out, HX.out⟩ ?_
    clear HPZ HX hr HF1
    rintro W3 ⟨hPz, hX⟩
    have HPZ := Lib.hid hPz; have HX := Lib.hid hX
    clear hPz hX
    obtain ⟨i0, hi0, hz0, hz1, hz2⟩ := info_parts info_tc
    have x0 : ∀ W', Keep uv.ownBlock.toList W3 W' → (W'.cell? ⟨P, 2, none⟩ = some uv ∧ W'.cell? ⟨r, 0, none⟩ = some (.int .i64 cr) ∧ W'.cell? ⟨r, 1, none⟩ = some (.int .i64 chn) ∧ W'.cell? ⟨r, 2, none⟩ = some (.bool by_) ∧ W'.cell? ⟨r, 3, none⟩ = some (.bool ck) ∧ W'.cell? ⟨r, 4, none⟩ = some (.int .i64 sq) ∧ W'.cell? ⟨r, 5, none⟩ = some (.string d)) := fun W' k => ⟨(HPZ.out.sure (v := uv) (by simp) k).1.cell 2, (HX.out.keep k hru).cell 0, (HX.out.keep k hru).cell 1, (HX.out.keep k hru).cell 2, (HX.out.keep k hru).cell 3, (HX.out.keep k hru).cell 4, (HX.out.keep k hru).cell 5⟩
    refine region_end (fun W' => Keep uv.ownBlock.toList W3 W') 10 (by kernel_rfl) ((Keep.refl _ _).drew) (fun hInv hHeld => ?_)
    have hL0 : Below W3.heap.size W3 W3.drew := (Below.refl _ _).drew
    refine WpEnd.take (i := 0) (some 90) (v := ?_) rfl rfl (by kernel_rfl) (by kernel_rfl) (by kernel_rfl) (fun _ _ _ h => h) (by kernel_rfl) hInv (by assumption) (by rfl) ?_ (fun hInv2 => ?_)
    rotate_left
    · (intro w hSw; (try dsimp only at hSw); have hSx := x0 _ hSw; go_simp; (try with_reducible rfl))
    clear hInv; have hInv := hInv2; clear hInv2
    simp only [Act.put, List.setIfInBounds_toArray, List.set_cons_zero, List.set_cons_succ]
    refine WpEnd.take (i := 1) (some 91) (v := ?_) rfl rfl (by kernel_rfl) (by kernel_rfl) (by kernel_rfl) (fun _ _ _ h => h) (by kernel_rfl) hInv (by assumption) (by rfl) ?_ (fun hInv2 => ?_)
    rotate_left
    · (intro w hSw; (try dsimp only at hSw); have hSx := x0 _ hSw; go_simp; (try with_reducible rfl))
    clear hInv; have hInv := hInv2; clear hInv2
    simp only [Act.put, List.setIfInBounds_toArray, List.set_cons_zero, List.set_cons_succ]
    refine WpEnd.take (i := 2) (some 92) (v := ?_) rfl rfl (by kernel_rfl) (by kernel_rfl) (by kernel_rfl) (fun _ _ _ h => h) (by kernel_rfl) hInv (by assumption) (by rfl) ?_ (fun hInv2 => ?_)
    rotate_left
    · (intro w hSw; (try dsimp only at hSw); have hSx := x0 _ hSw; go_simp; (try with_reducible rfl))
    clear hInv; have hInv := hInv2; clear hInv2
    simp only [Act.put, List.setIfInBounds_toArray, List.set_cons_zero, List.set_cons_succ]
    refine WpEnd.take (i := 3) (some 93) (v := ?_) rfl rfl (by kernel_rfl) (by kernel_rfl) (by kernel_rfl) (fun _ _ _ h => h) (by kernel_rfl) hInv (by assumption) (by rfl) ?_ (fun hInv2 => ?_)
    rotate_left
    · (intro w hSw; (try dsimp only at hSw); have hSx := x0 _ hSw; go_simp; (try with_reducible rfl))
    clear hInv; have hInv := hInv2; clear hInv2
    simp only [Act.put, List.setIfInBounds_toArray, List.set_cons_zero, List.set_cons_succ]
    refine WpEnd.take (i := 4) (some 94) (v := ?_) rfl rfl (by kernel_rfl) (by kernel_rfl) (by kernel_rfl) (fun _ _ _ h => h) (by kernel_rfl) hInv (by assumption) (by rfl) ?_ (fun hInv2 => ?_)
    rotate_left
    · (intro w hSw; (try dsimp only at hSw); have hSx := x0 _ hSw; go_simp; (try with_reducible rfl))
    clear hInv; have hInv := hInv2; clear hInv2
    simp only [Act.put, List.setIfInBounds_toArray, List.set_cons_zero, List.set_cons_succ]
    refine WpEnd.take (i := 5) (some 95) (v := ?_) rfl rfl (by kernel_rfl) (by kernel_rfl) (by kernel_rfl) (fun _ _ _ h => h) (by kernel_rfl) hInv (by assumption) (by rfl) ?_ (fun hInv2 => ?_)
    rotate_left
    · (intro w hSw; (try dsimp only at hSw); have hSx := x0 _ hSw; go_simp; (try with_reducible rfl))
    clear hInv; have hInv := hInv2; clear hInv2
    simp only [Act.put, List.setIfInBounds_toArray, List.set_cons_zero, List.set_cons_succ]
    refine WpEnd.ready (rs := [6]) (by kernel_rfl) (by simp) ?_
    refine EachEnd.cons (some 96) rfl rfl (by decide) (by kernel_rfl) hInv (fun K hKK hKB => ?_) EachEnd.nil
    refine step_build_1 76 31 ([.int .i64 cr, .int .i64 chn, .bool by_, .bool ck, .int .i64 sq, .string d]) rfl _ rfl _ rfl (build_tc _ (⟨cr, chn, by_, ck, sq, d⟩ : Tc)) ?_
    have hL1 := hL0.alloc hL0.size (Obj.cells ([.int .i64 cr, .int .i64 chn, .bool by_, .bool ck, .int .i64 sq, .string d]).toArray 31)
    have hy1 := Blk.new W3.drew ([.int .i64 cr, .int .i64 chn, .bool by_, .bool ck, .int .i64 sq, .string d]) 31
    obtain ⟨nb, hnb⟩ : ∃ nb, nb = (W3.drew).heap.size := ⟨_, rfl⟩
    rw [← hnb] at hy1 ⊢
    obtain ⟨Wb, hWb⟩ : ∃ Wb, Wb = (W3.drew).alloc (Obj.cells ([.int .i64 cr, .int .i64 chn, .bool by_, .bool ck, .int .i64 sq, .string d]).toArray 31) := ⟨_, rfl⟩
    rw [← hWb] at hL1 hy1 ⊢
    refine hKK.out _ _ ((Keep.refl _ _).below hL1 (Nat.le_refl _)) (fun hInv2 hHeld2 => ?_)
    clear hKK hKB K hWb hnb hInv hHeld; have hInv := hInv2; have hHeld := hHeld2; clear hInv2 hHeld2
    simp only [Act.put, List.setIfInBounds_toArray, List.set_cons_zero, List.set_cons_succ]
    refine WpEnd.ready (rs := [7]) (by kernel_rfl) (by simp) ?_
    refine EachEnd.cons (some 97) rfl rfl (by decide) (by kernel_rfl) hInv (fun K hKK hKB => ?_) EachEnd.nil
    refine step_append_q 76 31 6 48 i0 (.agg #[.int .i64 0, .int .i64 0, .bool false, .bool false, .int .i64 0, .string ⟨#[]⟩]) rfl _ _ rfl Try.underlying76 hi0 hz0 rfl hz1 hz2 0 uv p.up.length _ rfl (q_below HPZ.out.up hL1 (Nat.le_refl _)) nb 0 1 1 ([.int .i64 cr, .int .i64 chn, .bool by_, .bool ck, .int .i64 sq, .string d]) rfl rfl (by intro u hu; simp at hu; rcases hu with rfl | rfl | rfl | rfl | rfl | rfl <;> rfl) (fun j u hj => by rw [Nat.zero_add]; exact (hy1.cell j).trans hj) (by omega) (by unfold maxLen; omega) (Nat.zero_le _) ?_
    intro v' Wd hq2 hk2 hm2
    refine hKK.out _ _ (((Keep.refl _ _).below hL1 (Nat.le_refl _)).trans hk2) (fun hInv2 hHeld2 => ?_)
    clear hKK hKB K hInv hHeld; have hInv := hInv2; have hHeld := hHeld2; clear hInv2 hHeld2
    simp only [Act.put, List.setIfInBounds_toArray, List.set_cons_zero, List.set_cons_succ]
    refine WpEnd.take (i := 8) (some 98) (v := ?_) rfl rfl (by kernel_rfl) (by kernel_rfl) (by kernel_rfl) (fun _ _ _ h => h) (by kernel_rfl) hInv (by assumption) (by rfl) ?_ (fun hInv2 => ?_)
    rotate_left
    · (intro w hSw; (try dsimp only at hSw); have hSx := x0 _ hSw; go_simp; (try with_reducible rfl))
    clear hInv; have hInv := hInv2; clear hInv2
    simp only [Act.put, List.setIfInBounds_toArray, List.set_cons_zero, List.set_cons_succ]
    refine WpEnd.take (i := 9) (some 99) (v := ?_) rfl rfl (by kernel_rfl) (by kernel_rfl) (by kernel_rfl) (fun _ _ _ h => h) (by kernel_rfl) hInv (by assumption) (by rfl) ?_ (fun hInv2 => ?_)
    rotate_left
    · (intro w hSw; (try dsimp only at hSw); have hSx := x0 _ hSw; go_simp; (try with_reducible rfl))
    clear hInv; have hInv := hInv2; clear hInv2
    simp only [Act.put, List.setIfInBounds_toArray, List.set_cons_zero, List.set_cons_succ]
    refine WpEnd.ready (rs := [10]) (by kernel_rfl) (by simp) ?_
    refine EachEnd.last rfl (fun K hKK => ?_)
    have c0 := (HPZ.out.sure (v := uv) (by simp) hHeld).1.cell 2
    have f0 := (HPZ.out.sure (v := uv) (by simp) hHeld).1.free 2
    simp only [pairCells, List.getElem?_cons_zero, List.getElem?_cons_succ] at c0
    have hP3 := HPZ.out.pushUp (l := (p.up ++ [(⟨cr, chn, by_, ck, sq, d⟩ : Tc)])) hL1 hk2 hm2 (by simp only [List.length_append, List.length_singleton, tcRow_snoc]; exact hq2)
    obtain ⟨ra, rc, hve⟩ := qform hq2
    subst hve
    go_simp
    refine hKK.out _ _ ?_
    clear hKK K
    refine WpEnd.done (by kernel_rfl) ?_ _
    refine post_any (fun W' => PairAt w W' P gf gg (.slice ra (p.up.length + 1) rc) dv nv av { { p with s := s' } with up := (p.up ++ [(⟨cr, chn, by_, ck, sq, d⟩ : Tc)]) }) hP3 ?_
    clear hP3  hm2 hq2 hk2 hy1 hL1 hL0 hHeld hInv c0 f0 x0 hi0 hz0 hz1 hz2 i0 
    rintro W4 hP4
    have HP4 := Lib.hid hP4
    clear hP4 HPZ HX
    go_wp2_with fail
    go_ret
    exact ⟨rfl, _, _, _, _, _, HP4.out, HF2.out.1⟩
set_option maxHeartbeats 8000000 in
set_option maxRecDepth 100000 in
theorem act_next5 (hI : Inv k n0 L tm p ups dws b) (hS : Sz c p ups dws) (hcc : c ≤ 3000) (n : Int) (m : Nat) (hn : I64 n) (hm : (m : Int) = n % 640) (hc : m % 16 = 5) (hP : PairAt w W P gf gg uv dv nv av p) :
    Calls Try.prog 26 #[.pointer (some ⟨P, 0, none⟩), .int .i64 n] W fun e w' => Stepped k n0 L tm (c + 1) w P gf gg e w' := by
  have HN := Lib.hid (fun S1 (W1 : World) (hl : ∀ i ∈ S1, i < W1.heap.size) h => Next_all p.s gf S1 W1 hI.fine hl h)
  have hF := next_fin hI hS
  have hul : p.up.length ≤ 6000 := by have := hS.ul; rw [hI.hup, List.length_map]; omega
  obtain ⟨X, hX⟩ : ∃ X, X = nextF p.s := ⟨_, rfl⟩
  rw [← hX] at HN hF
  clear hX
  obtain ⟨s', ox⟩ := X
  simp only at HN hF
  have HF := Lib.hid hF
  have HP := Lib.hid hP
  have HK := Lib.hid (fun W => pick_any n 640 W (by omega) (by omega) hn.1 hn.2)
  rw [← hm] at HK
  have c0 := hP.blk.cell 0
  simp only [pairCells, List.getElem?_cons_zero, List.getElem?_cons_succ] at c0
  have hc2 : ((m : Int) % 16) = 5 := by omega
  clear hI hS hF hP hm hn
  go_enter Try.func26, Try.ntmps26
  go_wp2_with fail
  refine (HK.out _).mono ?_
  rintro e _ ⟨rfl, rfl⟩
  clear HK
  go_wp2_with fail
  obtain ⟨S1, hI, hlt, hnx, hgv⟩ := HP.out.fop.call
  refine (HN.out S1 _ hlt hI).mono ?_
  rintro e W2 ⟨rfl, hT⟩
  obtain ⟨hX, hR⟩ := hnx hT
  have HP2 := Lib.hid (HP.out.call hX hR)
  clear hI hlt hnx hgv hX hR hT HP HN c0
  cases ox with
  | none =>
    have hPz := HP2.out.below ((Below.refl _ _).alloc (Nat.le_refl _) (Obj.cells #[.int .i64 0, .int .i64 0, .bool false, .bool false, .int .i64 0, .string ⟨#[]⟩] 31))
    have HPZ := Lib.hid hPz
    clear hPz HP2
    simp only [tcV, Option.isSome]
    go_wp2_with fail
    go_ret
    exact ⟨rfl, _, _, _, _, _, HPZ.out, HF.out.1⟩
  | some y =>
    have HF2 := Lib.hid (HF.out.2 y rfl)
    have HF1 := Lib.hid HF.out.1
    clear HF
    obtain ⟨cr, chn, by_, ck, sq, d⟩ := y
    simp only [tcV, Option.isSome]
    obtain ⟨r, hr⟩ : ∃ r, r = W2.heap.size := ⟨_, rfl⟩
    have hPz := HP2.out.below ((Below.refl _ _).alloc (Nat.le_refl _) (Obj.cells #[.int .i64 cr, .int .i64 chn, .bool by_, .bool ck, .int .i64 sq, .string d] 31))
    have hX := Blk.new W2 [.int .i64 cr, .int .i64 chn, .bool by_, .bool ck, .int .i64 sq, .string d] 31
    rw [← hr] at hX
    have hlt := HP2.out.fop.lt
    rw [← hr] at hlt
    have hrP : r ≠ P := fun e => by have := (hlt P PairAt.hP).2; omega
    have hru : r ∉ uv.ownBlock.toList := fun hm => by have := (hlt r (in_blocks (v := uv) (by simp) (by simpa using hm))).2; omega
    have HPZ := Lib.hid hPz; have HX := Lib.hid hX
    clear hPz hX hlt HP2
    go_upto_region 18 with fail
    rw [← hr]
    refine gen_world (fun W => PairAt w W P gf gg uv dv nv av { p with s := s' } ∧ Blk W r [.int .i64 cr, .int .i64 chn, .bool by_, .bool ck, .int .i64 sq, .string d] 31) ⟨HPZ.out, HX.out⟩ ?_
    clear HPZ HX hr HF1
    rintro W3 ⟨hPz, hX⟩
    have HPZ := Lib.hid hPz; have HX := Lib.hid hX
    clear hPz hX
    obtain ⟨i0, hi0, hz0, hz1, hz2⟩ := info_parts info_tc
    have x0 : ∀ W', Keep uv.ownBlock.toList W3 W' → (W'.cell? ⟨P, 2, none⟩ = some uv ∧ W'.cell? ⟨r, 0, none⟩ = some (.int .i64 cr) ∧ W'.cell? ⟨r, 1, none⟩ = some (.int .i64 chn) ∧ W'.cell? ⟨r, 2, none⟩ = some (.bool by_) ∧ W'.cell? ⟨r, 3, none⟩ = some (.bool ck) ∧ W'.cell? ⟨r, 4, none⟩ = some (.int .i64 sq) ∧ W'.cell? ⟨r, 5, none⟩ = some (.string d)) := fun W' k => ⟨(HPZ.out.sure (v := uv) (by simp) k).1.cell 2, (HX.out.keep k hru).cell 0, (HX.out.keep k hru).cell 1, (HX.out.keep k hru).cell 2, (HX.out.keep k hru).cell 3, (HX.out.keep k hru).cell 4, (HX.out.keep k hru).cell 5⟩
    refine region_end (fun W' => Keep uv.ownBlock.toList W3 W') 10 (by kernel_rfl) ((Keep.refl _ _).drew) (fun hInv hHeld => ?_)
    have hL0 : Below W3.heap.size W3 W3.drew := (Below.refl _ _).drew
    refine WpEnd.take (i := 0) (some 90) (v := ?_) rfl rfl (by kernel_rfl) (by kernel_rfl) (by kernel_rfl) (fun _ _ _ h => h) (by kernel_rfl) hInv (by assumption) (by rfl) ?_ (fun hInv2 => ?_)
    rotate_left
    · (intro w hSw; (try dsimp only at hSw); have hSx := x0 _ hSw; go_simp; (try with_reducible rfl))
    clear hInv; have hInv := hInv2; clear hInv2
    simp only [Act.put, List.setIfInBounds_toArray, List.set_cons_zero, List.set_cons_succ]
    refine WpEnd.take (i := 1) (some 91) (v := ?_) rfl rfl (by kernel_rfl) (by kernel_rfl) (by kernel_rfl) (fun _ _ _ h => h) (by kernel_rfl) hInv (by assumption) (by rfl) ?_ (fun hInv2 => ?_)
    rotate_left
    · (intro w hSw; (try dsimp only at hSw); have hSx := x0 _ hSw; go_simp; (try with_reducible rfl))
    clear hInv; have hInv := hInv2; clear hInv2
    simp only [Act.put, List.setIfInBounds_toArray, List.set_cons_zero, List.set_cons_succ]
    refine WpEnd.take (i := 2) (some 92) (v := ?_) rfl rfl (by kernel_rfl) (by kernel_rfl) (by kernel_rfl) (fun _ _ _ h => h) (by kernel_rfl) hInv (by assumption) (by rfl) ?_ (fun hInv2 => ?_)
    rotate_left
    · (intro w hSw; (try dsimp only at hSw); have hSx := x0 _ hSw; go_simp; (try with_reducible rfl))
    clear hInv; have hInv := hInv2; clear hInv2
    simp only [Act.put, List.setIfInBounds_toArray, List.set_cons_zero, List.set_cons_succ]
    refine WpEnd.take (i := 3) (some 93) (v := ?_) rfl rfl (by kernel_rfl) (by kernel_rfl) (by kernel_rfl) (fun _ _ _ h => h) (by kernel_rfl) hInv (by assumption) (by rfl) ?_ (fun hInv2 => ?_)
    rotate_left
    · (intro w hSw; (try dsimp only at hSw); have hSx := x0 _ hSw; go_simp; (try with_reducible rfl))
    clear hInv; have hInv := hInv2; clear hInv2
    simp only [Act.put, List.setIfInBounds_toArray, List.set_cons_zero, List.set_cons_succ]
    refine WpEnd.take (i := 4) (some 94) (v := ?_) rfl rfl (by kernel_rfl) (by kernel_rfl) (by kernel_rfl) (fun _ _ _ h => h) (by kernel_rfl) hInv (by assumption) (by rfl) ?_ (fun hInv2 => ?_)
    rotate_left
    · (intro w hSw; (try dsimp only at hSw); have hSx := x0 _ hSw; go_simp; (try with_reducible rfl))
    clear hInv; have hInv := hInv2; clear hInv2
    simp only [Act.put, List.setIfInBounds_toArray, List.set_cons_zero, List.set_cons_succ]
    refine WpEnd.take (i := 5) (some 95) (v := ?_) rfl rfl (by kernel_rfl) (by kernel_rfl) (by kernel_rfl) (fun _ _ _ h => h) (by kernel_rfl) hInv (by assumption) (by rfl) ?_ (fun hInv2 => ?_)
    rotate_left
    · (intro w hSw; (try dsimp only at hSw); have hSx := x0 _ hSw; go_simp; (try with_reducible rfl))
    clear hInv; have hInv := hInv2; clear hInv2
    simp only [Act.put, List.setIfInBounds_toArray, List.set_cons_zero, List.set_cons_succ]
    refine WpEnd.ready (rs := [6]) (by kernel_rfl) (by simp) ?_
    refine EachEnd.cons (some 96) rfl rfl (by decide) (by kernel_rfl) hInv (fun K hKK hKB => ?_) EachEnd.nil
    refine step_build_1 76 31 ([.int .i64 cr, .int .i64 chn, .bool by_, .bool ck, .int .i64 sq, .string d]) rfl _ rfl _ rfl (build_tc _ (⟨cr, chn, by_, ck, sq, d⟩ : Tc)) ?_
    have hL1 := hL0.alloc hL0.size (Obj.cells ([.int .i64 cr, .int .i64 chn, .bool by_, .bool ck, .int .i64 sq, .string d]).toArray 31)
    have hy1 := Blk.new W3.drew ([.int .i64 cr, .int .i64 chn, .bool by_, .bool ck, .int .i64 sq, .string d]) 31
    obtain ⟨nb, hnb⟩ : ∃ nb, nb = (W3.drew).heap.size := ⟨_, rfl⟩
    rw [← hnb] at hy1 ⊢
    obtain ⟨Wb, hWb⟩ : ∃ Wb, Wb = (W3.drew).alloc (Obj.cells ([.int .i64 cr, .int .i64 chn, .bool by_, .bool ck, .int .i64 sq, .string d]).toArray 31) := ⟨_, rfl⟩
    rw [← hWb] at hL1 hy1 ⊢
    refine hKK.out _ _ ((Keep.refl _ _).below hL1 (Nat.le_refl _)) (fun hInv2 hHeld2 => ?_)
    clear hKK hKB K hWb hnb hInv hHeld; have hInv := hInv2; have hHeld := hHeld2; clear hInv2 hHeld2
    simp only [Act.put, List.setIfInBounds_toArray, List.set_cons_zero, List.set_cons_succ]
    refine WpEnd.ready (rs := [7]) (by kernel_rfl) (by simp) ?_
    refine EachEnd.cons (some 97) rfl rfl (by decide) (by kernel_rfl) hInv (fun K hKK hKB => ?_) EachEnd.nil
    refine step_append_q 76 31 6 48 i0 (.agg #[.int .i64 0, .int .i64 0, .bool false, .bool false, .int .i64 0, .string ⟨#[]⟩]) rfl _ _ rfl Try.underlying76 hi0 hz0 rfl hz1 hz2 0 uv p.up.length _ rfl (q_below HPZ.out.up hL1 (Nat.le_refl _)) nb 0 1 1 ([.int .i64 cr, .int .i64 chn, .bool by_, .bool ck, .int .i64 sq, .string d]) rfl rfl (by intro u hu; simp at hu; rcases hu with rfl | rfl | rfl | rfl | rfl | rfl <;> rfl) (fun j u hj => by rw [Nat.zero_add]; exact (hy1.cell j).trans hj) (by omega) (by unfold maxLen; omega) (Nat.zero_le _) ?_
    intro v' Wd hq2 hk2 hm2
    refine hKK.out _ _ (((Keep.refl _ _).below hL1 (Nat.le_refl _)).trans hk2) (fun hInv2 hHeld2 => ?_)
    clear hKK hKB K hInv hHeld; have hInv := hInv2; have hHeld := hHeld2; clear hInv2 hHeld2
    simp only [Act.put, List.setIfInBounds_toArray, List.set_cons_zero, List.set_cons_succ]
    refine WpEnd.take (i := 8) (some 98) (v := ?_) rfl rfl (by kernel_rfl) (by kernel_rfl) (by kernel_rfl) (fun _ _ _ h => h) (by kernel_rfl) hInv (by assumption) (by rfl) ?_ (fun hInv2 => ?_)
    rotate_left
    · (intro w hSw; (try dsimp only at hSw); have hSx := x0 _ hSw; go_simp; (try with_reducible rfl))
    clear hInv; have hInv := hInv2; clear hInv2
    simp only [Act.put, List.setIfInBounds_toArray, List.set_cons_zero, List.set_cons_succ]
    refine WpEnd.take (i := 9) (some 99) (v := ?_) rfl rfl (by kernel_rfl) (by kernel_rfl) (by kernel_rfl) (fun _ _ _ h => h) (by kernel_rfl) hInv (by assumption) (by rfl) ?_ (fun hInv2 => ?_)
    rotate_left
    · (intro w hSw; (try dsimp only at hSw); have hSx := x0 _ hSw; go_simp; (try with_reducible rfl))
    clear hInv; have hInv := hInv2; clear hInv2
    simp only [Act.put, List.setIfInBounds_toArray, List.set_cons_zero, List.set_cons_succ]
    refine WpEnd.ready (rs := [10]) (by kernel_rfl) (by simp) ?_
    refine EachEnd.last rfl (fun K hKK => ?_)
    have c0 := (HPZ.out.sure (v := uv) (by simp) hHeld).1.cell 2
    have f0 := (HPZ.out.sure (v := uv) (by simp) hHeld).1.free 2
    simp only [pairCells, List.getElem?_cons_zero, List.getElem?_cons_succ] at c0
    have hP3 := HPZ.out.pushUp (l := (p.up ++ [(⟨cr, chn, by_, ck, sq, d⟩ : Tc)])) hL1 hk2 hm2 (by simp only [List.length_append, List.length_singleton, tcRow_snoc]; exact hq2)
    have hrn : r ∉ v'.ownBlock.toList := fun hm => by
      rcases hm2 with e | e
      · exact hru (by rw [← e]; exact hm)
      · rw [e] at hm; simp at hm
        have := HX.out.lt; have := hL1.size; omega
    obtain ⟨ra, rc, hve⟩ := qform hq2
    subst hve
    have hR3 := (HX.out.keep hHeld hru).keep ((Keep.refl [P] _).setCell (p := ⟨P, 2, none⟩) (.inl (by simp)) (.slice ra (p.up.length + 1) rc)) (by simpa using hrP)
    go_simp
    refine hKK.out _ _ ?_
    clear hKK K
    refine WpEnd.done (by kernel_rfl) ?_ _
    refine post_any (fun W' => PairAt w W' P gf gg (.slice ra (p.up.length + 1) rc) dv nv av { { p with s := s' } with up := (p.up ++ [(⟨cr, chn, by_, ck, sq, d⟩ : Tc)]) } ∧ Blk W' r [.int .i64 cr, .int .i64 chn, .bool by_, .bool ck, .int .i64 sq, .string d] 31 ∧ r ∉ (Value.slice ra (p.up.length + 1) rc).ownBlock.toList) ⟨hP3, hR3, hrn⟩ ?_
    clear hP3 hR3 hrn hm2 hq2 hk2 hy1 hL1 hL0 hHeld hInv c0 f0 x0 hi0 hz0 hz1 hz2 i0 
    rintro W4 ⟨hP3, hR3, hrn⟩
    have HP3 := Lib.hid hP3; have HX3 := Lib.hid hR3
    obtain ⟨uv2, huv2⟩ : ∃ v : Value, v = .slice ra (p.up.length + 1) rc := ⟨_, rfl⟩
    rw [← huv2] at HP3 hrn
    have hru2 := hrn
    have hq3 : QRow W4 0 31 6 uv2 (p.up.length + 1) (tcRow p.up ++ [.int .i64 cr, .int .i64 chn, .bool by_, .bool ck, .int .i64 sq, .string d]) := by
      have := HP3.out.up
      simp only [List.length_append, List.length_singleton, tcRow_snoc] at this
      exact this
    have HQ3 := Lib.hid hq3; clear hq3
    clear hP3 hR3 HPZ HX huv2 hrn
    go_upto_region 20 with fail
    obtain ⟨i0, hi0, hz0, hz1, hz2⟩ := info_parts info_tc
    have x0 : ∀ W', Keep uv2.ownBlock.toList W4 W' → (W'.cell? ⟨P, 2, none⟩ = some uv2 ∧ W'.cell? ⟨r, 0, none⟩ = some (.int .i64 cr) ∧ W'.cell? ⟨r, 1, none⟩ = some (.int .i64 chn) ∧ W'.cell? ⟨r, 2, none⟩ = some (.bool by_) ∧ W'.cell? ⟨r, 3, none⟩ = some (.bool ck) ∧ W'.cell? ⟨r, 4, none⟩ = some (.int .i64 sq) ∧ W'.cell? ⟨r, 5, none⟩ = some (.string d)) := fun W' k => ⟨(HP3.out.sure (v := uv2) (by simp) k).1.cell 2, (HX3.out.keep k hru2).cell 0, (HX3.out.keep k hru2).cell 1, (HX3.out.keep k hru2).cell 2, (HX3.out.keep k hru2).cell 3, (HX3.out.keep k hru2).cell 4, (HX3.out.keep k hru2).cell 5⟩
    refine region_end (fun W' => Keep uv2.ownBlock.toList W4 W') 10 (by kernel_rfl) ((Keep.refl _ _).drew) (fun hInv hHeld => ?_)
    have hL0 : Below W4.heap.size W4 W4.drew := (Below.refl _ _).drew
    refine WpEnd.take (i := 0) (some 106) (v := ?_) rfl rfl (by kernel_rfl) (by kernel_rfl) (by kernel_rfl) (fun _ _ _ h => h) (by kernel_rfl) hInv (by assumption) (by rfl) ?_ (fun hInv2 => ?_)
    rotate_left
    · (intro w hSw; (try dsimp only at hSw); have hSx := x0 _ hSw; go_simp; (try with_reducible rfl))
    clear hInv; have hInv := hInv2; clear hInv2
    simp only [Act.put, List.setIfInBounds_toArray, List.set_cons_zero, List.set_cons_succ]
    refine WpEnd.take (i := 1) (some 107) (v := ?_) rfl rfl (by kernel_rfl) (by kernel_rfl) (by kernel_rfl) (fun _ _ _ h => h) (by kernel_rfl) hInv (by assumption) (by rfl) ?_ (fun hInv2 => ?_)
    rotate_left
    · (intro w hSw; (try dsimp only at hSw); have hSx := x0 _ hSw; go_simp; (try with_reducible rfl))
    clear hInv; have hInv := hInv2; clear hInv2
    simp only [Act.put, List.setIfInBounds_toArray, List.set_cons_zero, List.set_cons_succ]
    refine WpEnd.take (i := 2) (some 108) (v := ?_) rfl rfl (by kernel_rfl) (by kernel_rfl) (by kernel_rfl) (fun _ _ _ h => h) (by kernel_rfl) hInv (by assumption) (by rfl) ?_ (fun hInv2 => ?_)
    rotate_left
    · (intro w hSw; (try dsimp only at hSw); have hSx := x0 _ hSw; go_simp; (try with_reducible rfl))
    clear hInv; have hInv := hInv2; clear hInv2
    simp only [Act.put, List.setIfInBounds_toArray, List.set_cons_zero, List.set_cons_succ]
    refine WpEnd.take (i := 3) (some 109) (v := ?_) rfl rfl (by kernel_rfl) (by kernel_rfl) (by kernel_rfl) (fun _ _ _ h => h) (by kernel_rfl) hInv (by assumption) (by rfl) ?_ (fun hInv2 => ?_)
    rotate_left
    · (intro w hSw; (try dsimp only at hSw); have hSx := x0 _ hSw; go_simp; (try with_reducible rfl))
    clear hInv; have hInv := hInv2; clear hInv2
    simp only [Act.put, List.setIfInBounds_toArray, List.set_cons_zero, List.set_cons_succ]
    refine WpEnd.take (i := 4) (some 110) (v := ?_) rfl rfl (by kernel_rfl) (by kernel_rfl) (by kernel_rfl) (fun _ _ _ h => h) (by kernel_rfl) hInv (by assumption) (by rfl) ?_ (fun hInv2 => ?_)
    rotate_left
    · (intro w hSw; (try dsimp only at hSw); have hSx := x0 _ hSw; go_simp; (try with_reducible rfl))
    clear hInv; have hInv := hInv2; clear hInv2
    simp only [Act.put, List.setIfInBounds_toArray, List.set_cons_zero, List.set_cons_succ]
    refine WpEnd.take (i := 5) (some 111) (v := ?_) rfl rfl (by kernel_rfl) (by kernel_rfl) (by kernel_rfl) (fun _ _ _ h => h) (by kernel_rfl) hInv (by assumption) (by rfl) ?_ (fun hInv2 => ?_)
    rotate_left
    · (intro w hSw; (try dsimp only at hSw); have hSx := x0 _ hSw; go_simp; (try with_reducible rfl))
    clear hInv; have hInv := hInv2; clear hInv2
    simp only [Act.put, List.setIfInBounds_toArray, List.set_cons_zero, List.set_cons_succ]
    refine WpEnd.ready (rs := [6]) (by kernel_rfl) (by simp) ?_
    refine EachEnd.cons (some 112) rfl rfl (by decide) (by kernel_rfl) hInv (fun K hKK hKB => ?_) EachEnd.nil
    refine step_build_1 76 31 ([.int .i64 cr, .int .i64 chn, .bool by_, .bool ck, .int .i64 sq, .string d]) rfl _ rfl _ rfl (build_tc _ (⟨cr, chn, by_, ck, sq, d⟩ : Tc)) ?_
    have hL1 := hL0.alloc hL0.size (Obj.cells ([.int .i64 cr, .int .i64 chn, .bool by_, .bool ck, .int .i64 sq, .string d]).toArray 31)
    have hy1 := Blk.new W4.drew ([.int .i64 cr, .int .i64 chn, .bool by_, .bool ck, .int .i64 sq, .string d]) 31
    obtain ⟨nb, hnb⟩ : ∃ nb, nb = (W4.drew).heap.size := ⟨_, rfl⟩
    rw [← hnb] at hy1 ⊢
    obtain ⟨Wb, hWb⟩ : ∃ Wb, Wb = (W4.drew).alloc (Obj.cells ([.int .i64 cr, .int .i64 chn, .bool by_, .bool ck, .int .i64 sq, .string d]).toArray 31) := ⟨_, rfl⟩
    rw [← hWb] at hL1 hy1 ⊢
    refine hKK.out _ _ ((Keep.refl _ _).below hL1 (Nat.le_refl _)) (fun hInv2 hHeld2 => ?_)
    clear hKK hKB K hWb hnb hInv hHeld; have hInv := hInv2; have hHeld := hHeld2; clear hInv2 hHeld2
    simp only [Act.put, List.setIfInBounds_toArray, List.set_cons_zero, List.set_cons_succ]
    refine WpEnd.ready (rs := [7]) (by kernel_rfl) (by simp) ?_
    refine EachEnd.cons (some 113) rfl rfl (by decide) (by kernel_rfl) hInv (fun K hKK hKB => ?_) EachEnd.nil
    refine step_append_q 76 31 6 48 i0 (.agg #[.int .i64 0, .int .i64 0, .bool false, .bool false, .int .i64 0, .string ⟨#[]⟩]) rfl _ _ rfl Try.underlying76 hi0 hz0 rfl hz1 hz2 0 uv2 (p.up.length + 1) _ rfl (q_below HQ3.out hL1 (Nat.le_refl _)) nb 0 1 1 ([.int .i64 cr, .int .i64 chn, .bool by_, .bool ck, .int .i64 sq, .string d]) rfl rfl (by intro u hu; simp at hu; rcases hu with rfl | rfl | rfl | rfl | rfl | rfl <;> rfl) (fun j u hj => by rw [Nat.zero_add]; exact (hy1.cell j).trans hj) (by omega) (by unfold maxLen; omega) (Nat.zero_le _) ?_
    intro v' Wd hq2 hk2 hm2
    refine hKK.out _ _ (((Keep.refl _ _).below hL1 (Nat.le_refl _)).trans hk2) (fun hInv2 hHeld2 => ?_)
    clear hKK hKB K hInv hHeld; have hInv := hInv2; have hHeld := hHeld2; clear hInv2 hHeld2
    simp only [Act.put, List.setIfInBounds_toArray, List.set_cons_zero, List.set_cons_succ]
    refine WpEnd.take (i := 8) (some 114) (v := ?_) rfl rfl (by kernel_rfl) (by kernel_rfl) (by kernel_rfl) (fun _ _ _ h => h) (by kernel_rfl) hInv (by assumption) (by rfl) ?_ (fun hInv2 => ?_)
    rotate_left
    · (intro w hSw; (try dsimp only at hSw); have hSx := x0 _ hSw; go_simp; (try with_reducible rfl))
    clear hInv; have hInv := hInv2; clear hInv2
    simp only [Act.put, List.setIfInBounds_toArray, List.set_cons_zero, List.set_cons_succ]
    refine WpEnd.take (i := 9) (some 115) (v := ?_) rfl rfl (by kernel_rfl) (by kernel_rfl) (by kernel_rfl) (fun _ _ _ h => h) (by kernel_rfl) hInv (by assumption) (by rfl) ?_ (fun hInv2 => ?_)
    rotate_left
    · (intro w hSw; (try dsimp only at hSw); have hSx := x0 _ hSw; go_simp; (try with_reducible rfl))
    clear hInv; have hInv := hInv2; clear hInv2
    simp only [Act.put, List.setIfInBounds_toArray, List.set_cons_zero, List.set_cons_succ]
    refine WpEnd.ready (rs := [10]) (by kernel_rfl) (by simp) ?_
    refine EachEnd.last rfl (fun K hKK => ?_)
    have c0 := (HP3.out.sure (v := uv2) (by simp) hHeld).1.cell 2
    have f0 := (HP3.out.sure (v := uv2) (by simp) hHeld).1.free 2
    simp only [pairCells, List.getElem?_cons_zero, List.getElem?_cons_succ] at c0
    have hP3 := HP3.out.pushUp (l := ((p.up ++ [(⟨cr, chn, by_, ck, sq, d⟩ : Tc)]) ++ [(⟨cr, chn, by_, ck, sq, d⟩ : Tc)])) hL1 hk2 hm2 (by simp only [List.length_append, List.length_singleton, tcRow_snoc]; exact hq2)
    obtain ⟨ra, rc, hve⟩ := qform hq2
    subst hve
    go_simp
    refine hKK.out _ _ ?_
    clear hKK K
    refine WpEnd.done (by kernel_rfl) ?_ _
    refine post_any (fun W' => PairAt w W' P gf gg (.slice ra ((p.up.length + 1) + 1) rc) dv nv av { { { p with s := s' } with up := p.up ++ [(⟨cr, chn, by_, ck, sq, d⟩ : Tc)] } with up := ((p.up ++ [(⟨cr, chn, by_, ck, sq, d⟩ : Tc)]) ++ [(⟨cr, chn, by_, ck, sq, d⟩ : Tc)]) }) hP3 ?_
    clear hP3  hm2 hq2 hk2 hy1 hL1 hL0 hHeld hInv c0 f0 x0 hi0 hz0 hz1 hz2 i0 
    rintro W5 hP5
    have HP5 := Lib.hid hP5
    clear hP5 HP3 HX3 HQ3
    go_wp2_with fail
    go_ret
    exact ⟨rfl, _, _, _, _, _, HP5.out, HF2.out.2⟩
set_option maxHeartbeats 8000000 in
set_option maxRecDepth 100000 in
theorem act_next6 (hI : Inv k n0 L tm p ups dws b) (hS : Sz c p ups dws) (hcc : c ≤ 3000) (n : Int) (m : Nat) (hn : I64 n) (hm : (m : Int) = n % 640) (hc : m % 16 = 6) (hP : PairAt w W P gf gg uv dv nv av p) :
    Calls Try.prog 26 #[.pointer (some ⟨P, 0, none⟩), .int .i64 n] W fun e w' => Stepped k n0 L tm (c + 1) w P gf gg e w' := by
  have HN := Lib.hid (fun S1 (W1 : World) (hl : ∀ i ∈ S1, i < W1.heap.size) h => Next_all p.s gf S1 W1 hI.fine hl h)
  have hF := next_fin hI hS
  have hul : p.up.length ≤ 6000 := by have := hS.ul; rw [hI.hup, List.length_map]; omega
  obtain ⟨X, hX⟩ : ∃ X, X = nextF p.s := ⟨_, rfl⟩
  rw [← hX] at HN hF
  clear hX
  obtain ⟨s', ox⟩ := X
  simp only at HN hF
  have HF := Lib.hid hF
  have HP := Lib.hid hP
  have HK := Lib.hid (fun W => pick_any n 640 W (by omega) (by omega) hn.1 hn.2)
  rw [← hm] at HK
  have c0 := hP.blk.cell 0
  simp only [pairCells, List.getElem?_cons_zero, List.getElem?_cons_succ] at c0
  have hc2 : ((m : Int) % 16) = 6 := by omega
  clear hI hS hF hP hm hn
  go_enter Try.func26, Try.ntmps26
  go_wp2_with fail
  refine (HK.out _).mono ?_
  rintro e _ ⟨rfl, rfl⟩
  clear HK
  go_wp2_with fail
  obtain ⟨S1, hI, hlt, hnx, hgv⟩ := HP.out.fop.call
  refine (HN.out S1 _ hlt hI).mono ?_
  rintro e W2 ⟨rfl, hT⟩
  obtain ⟨hX, hR⟩ := hnx hT
  have HP2 := Lib.hid (HP.out.call hX hR)
  clear hI hlt hnx hgv hX hR hT HP HN c0
  cases ox with
  | none =>
    have hPz := HP2.out.below ((Below.refl _ _).alloc (Nat.le_refl _) (Obj.cells #[.int .i64 0, .int .i64 0, .bool false, .bool false, .int .i64 0, .string ⟨#[]⟩] 31))
    have HPZ := Lib.hid hPz
    clear hPz HP2
    simp only [tcV, Option.isSome]
    go_wp2_with fail
    go_ret
    exact ⟨rfl, _, _, _, _, _, HPZ.out, HF.out.1⟩
  | some y =>
    have HF2 := Lib.hid (HF.out.2 y rfl)
    have HF1 := Lib.hid HF.out.1
    clear HF
    obtain ⟨cr, chn, by_, ck, sq, d⟩ := y
    simp only [tcV, Option.isSome]
    obtain ⟨r, hr⟩ : ∃ r, r = W2.heap.size := ⟨_, rfl⟩
    have hPz := HP2.out.below ((Below.refl _ _).alloc (Nat.le_refl _) (Obj.cells #[.int .i64 cr, .int .i64 chn, .bool by_, .bool ck, .int .i64 sq, .string d] 31))
    have hX := Blk.new W2 [.int .i64 cr, .int .i64 chn, .bool by_, .bool ck, .int .i64 sq, .string d] 31
    rw [← hr] at hX
    have hlt := HP2.out.fop.lt
    rw [← hr] at hlt
    have hrP : r ≠ P := fun e => by have := (hlt P PairAt.hP).2; omega
    have hru : r ∉ uv.ownBlock.toList := fun hm => by have := (hlt r (in_blocks (v := uv) (by simp) (by simpa using hm))).2; omega
    have HPZ := Lib.hid hPz; have HX := Lib.hid hX
    clear hPz hX hlt HP2
    go_wp2_with fail
    go_ret
    exact ⟨rfl, _, _, _, _, _, HPZ.out, HF1.out⟩
end
end
section
section
variable {k n0 L : Nat} {tm : Int} {c : Nat} {p : Pr} {ups : List (Option Nat)} {dws : List Dw} {b : Nat} {w W : World} {P gf gg : Nat} {uv dv nv av : Value}
def wordP (n0 : Nat) (p : Pr) : Nat := wordN 2 p.f.st.bypd.toNat ((n0 + p.acc.length) % 256) false p.f.st.wait p.f.st.retx
theorem word_calls (hI : Inv k n0 L tm p ups dws b) (W1 : World) (hB : Blk W1 gg p.f.cells 112) : Calls Try.prog 29 #[.pointer (some ⟨gg, 0, none⟩)] W1 fun e w' => e = .returned (.int .u32 (wordP n0 p : Nat)) ∧ Below W1.heap.size W1 w' := by
  have h1 := hI.fchan; have h2 := hI.flock; have h3 := hI.fbyp; have h4 := hI.fnext; have h5 := hI.fhalf; have h6 := hI.hk
  unfold wordP
  obtain ⟨N, hN⟩ : ∃ N, N = p.acc.length := ⟨_, rfl⟩
  rw [← hN] at h4 ⊢
  obtain ⟨f, hf⟩ : ∃ f, f = p.f := ⟨_, rfl⟩
  rw [← hf] at h1 h2 h3 h4 h5 hB ⊢
  obtain ⟨cr, h, ch, lo, wa, re, by_, nx⟩ := f
  simp only at h1 h2 h3 h4 h5 hB ⊢
  obtain ⟨bn, rfl⟩ : ∃ bn : Nat, (bn : Int) = by_ := ⟨by_.toNat, by omega⟩
  have hnx : nx = (((n0 + N) % 256 : Nat) : Int) := by omega
  subst h1 h2 hnx
  rw [Int.toNat_natCast]
  exact Word_any cr h 2 bn ((n0 + N) % 256) false wa re gg W1 (by omega) (by omega) (by omega) (by omega) hB
set_option maxHeartbeats 8000000 in
set_option maxRecDepth 100000 in
theorem act_idle (hI : Inv k n0 L tm p ups dws b) (hS : Sz c p ups dws) (n : Int) (m : Nat) (hn : I64 n) (hm : (m : Int) = n % 640) (hc : m % 16 = 10) (hP : PairAt w W P gf gg uv dv nv av p) :
    Calls Try.prog 26 #[.pointer (some ⟨P, 0, none⟩), .int .i64 n] W fun e w' => Stepped k n0 L tm (c + 1) w P gf gg e w' := by
  have h1 := hS.un; have h2 := hS.ul; have h3 := hS.dl
  have HF := Lib.hid (hI.fin (c := c + 1) (by omega) (by omega) (by omega))
  have HP := Lib.hid hP
  have HK := Lib.hid (fun W => pick_any n 640 W (by omega) (by omega) hn.1 hn.2)
  rw [← hm] at HK
  have hc2 : ((m : Int) % 16) = 10 := by omega
  clear hI hS hP hm hn h1 h2 h3
  go_enter Try.func26, Try.ntmps26
  go_wp2_with fail
  refine (HK.out _).mono ?_
  rintro e _ ⟨rfl, rfl⟩
  clear HK
  go_wp2_with fail
  go_ret
  exact ⟨rfl, _, _, _, _, _, HP.out, HF.out⟩
set_option maxHeartbeats 8000000 in
set_option maxRecDepth 100000 in
theorem act_word9 (hI : Inv k n0 L tm p ups dws b) (hS : Sz c p ups dws) (hcc : c ≤ 3000) (n : Int) (m : Nat) (hn : I64 n) (hm : (m : Int) = n % 640) (hc : m % 16 = 9) (hP : PairAt w W P gf gg uv dv nv av p) :
    Calls Try.prog 26 #[.pointer (some ⟨P, 0, none⟩), .int .i64 n] W fun e w' => Stepped k n0 L tm (c + 1) w P gf gg e w' := by
  have h1 := hS.un; have h2 := hS.ul; have h3 := hS.dl
  have HW := Lib.hid (fun (W1 : World) hB => word_calls (gg := gg) hI W1 hB)
  have hF : Fin k n0 L tm (c + 1) { p with down := p.down ++ [wordP n0 p] } := by
    have := hI.word
    exact this.fin (by show p.units.length ≤ _; omega) (by omega) (by simp; omega)
  obtain ⟨nw, hnw⟩ : ∃ nw, nw = wordP n0 p := ⟨_, rfl⟩
  rw [← hnw] at HW hF
  have hdl : p.down.length ≤ 6000 := by rw [hI.hdown, List.length_map]; omega
  have HF := Lib.hid hF
  have HP := Lib.hid hP
  have HK := Lib.hid (fun W => pick_any n 640 W (by omega) (by omega) hn.1 hn.2)
  rw [← hm] at HK
  have hc2 : ((m : Int) % 16) = 9 := by omega
  clear hI hS hF hP hm hn h1 h2 h3 hnw
  go_enter Try.func26, Try.ntmps26
  go_wp2_with fail
  refine (HK.out _).mono ?_
  rintro e _ ⟨rfl, rfl⟩
  clear HK
  go_upto_region 25 with fail
  obtain ⟨i0, hi0, hz0, hz1, hz2⟩ := info_parts info_u32
  have x0 : ∀ W', Keep dv.ownBlock.toList W W' → (W'.cell? ⟨P, 3, none⟩ = some dv ∧ W'.cell? ⟨P, 1, none⟩ = some (.pointer (some ⟨gg, 0, none⟩))) := fun W' k => ⟨(HP.out.sure (v := dv) (by simp) k).1.cell 3, (HP.out.sure (v := dv) (by simp) k).1.cell 1⟩
  refine region_end (fun W' => Keep dv.ownBlock.toList W W') 14 (by kernel_rfl) ((Keep.refl _ _).drew) (fun hInv hHeld => ?_)
  have hL0 : Below W.heap.size W W.drew := (Below.refl _ _).drew
  refine WpEnd.take (i := 0) (some 126) (v := ?_) rfl rfl (by kernel_rfl) (by kernel_rfl) (by kernel_rfl) (fun _ _ _ h => h) (by kernel_rfl) hInv (by assumption) (by rfl) ?_ (fun hInv2 => ?_)
  rotate_left
  · (intro w hSw; (try dsimp only at hSw); have hSx := x0 _ hSw; go_simp; (try with_reducible rfl))
  clear hInv; have hInv := hInv2; clear hInv2
  simp only [Act.put, List.setIfInBounds_toArray, List.set_cons_zero, List.set_cons_succ]
  refine WpEnd.take (i := 1) (some 127) (v := ?_) rfl rfl (by kernel_rfl) (by kernel_rfl) (by kernel_rfl) (fun _ _ _ h => h) (by kernel_rfl) hInv (by assumption) (by rfl) ?_ (fun hInv2 => ?_)
  rotate_left
  · (intro w hSw; (try dsimp only at hSw); have hSx := x0 _ hSw; go_simp; (try with_reducible rfl))
  clear hInv; have hInv := hInv2; clear hInv2
  simp only [Act.put, List.setIfInBounds_toArray, List.set_cons_zero, List.set_cons_succ]
  refine WpEnd.take (i := 2) (some 128) (v := ?_) rfl rfl (by kernel_rfl) (by kernel_rfl) (by kernel_rfl) (fun _ _ _ h => h) (by kernel_rfl) hInv (by assumption) (by rfl) ?_ (fun hInv2 => ?_)
  rotate_left
  · (intro w hSw; (try dsimp only at hSw); have hSx := x0 _ hSw; go_simp; (try with_reducible rfl))
  clear hInv; have hInv := hInv2; clear hInv2
  simp only [Act.put, List.setIfInBounds_toArray, List.set_cons_zero, List.set_cons_succ]
  refine WpEnd.take (i := 3) (some 129) (v := ?_) rfl rfl (by kernel_rfl) (by kernel_rfl) (by kernel_rfl) (fun _ _ _ h => h) (by kernel_rfl) hInv (by assumption) (by rfl) ?_ (fun hInv2 => ?_)
  rotate_left
  · (intro w hSw; (try dsimp only at hSw); have hSx := x0 _ hSw; go_simp; (try with_reducible rfl))
  clear hInv; have hInv := hInv2; clear hInv2
  simp only [Act.put, List.setIfInBounds_toArray, List.set_cons_zero, List.set_cons_succ]
  refine WpEnd.take (i := 4) (some 130) (v := ?_) rfl rfl (by kernel_rfl) (by kernel_rfl) (by kernel_rfl) (fun _ _ _ h => h) (by kernel_rfl) hInv (by assumption) (by rfl) ?_ (fun hInv2 => ?_)
  rotate_left
  · (intro w hSw; (try dsimp only at hSw); have hSx := x0 _ hSw; go_simp; (try with_reducible rfl))
  clear hInv; have hInv := hInv2; clear hInv2
  simp only [Act.put, List.setIfInBounds_toArray, List.set_cons_zero, List.set_cons_succ]
  refine WpEnd.take (i := 5) (some 131) (v := ?_) rfl rfl (by kernel_rfl) (by kernel_rfl) (by kernel_rfl) (fun _ _ _ h => h) (by kernel_rfl) hInv (by assumption) (by rfl) ?_ (fun hInv2 => ?_)
  rotate_left
  · (intro w hSw; (try dsimp only at hSw); have hSx := x0 _ hSw; go_simp; (try with_reducible rfl))
  clear hInv; have hInv := hInv2; clear hInv2
  simp only [Act.put, List.setIfInBounds_toArray, List.set_cons_zero, List.set_cons_succ]
  refine WpEnd.take (i := 6) (some 132) (v := ?_) rfl rfl (by kernel_rfl) (by kernel_rfl) (by kernel_rfl) (fun _ _ _ h => h) (by kernel_rfl) hInv (by assumption) (by rfl) ?_ (fun hInv2 => ?_)
  rotate_left
  · (intro w hSw; (try dsimp only at hSw); have hSx := x0 _ hSw; go_simp; (try with_reducible rfl))
  clear hInv; have hInv := hInv2; clear hInv2
  simp only [Act.put, List.setIfInBounds_toArray, List.set_cons_zero, List.set_cons_succ]
  refine WpEnd.take (i := 7) (some 133) (v := ?_) rfl rfl (by kernel_rfl) (by kernel_rfl) (by kernel_rfl) (fun _ _ _ h => h) (by kernel_rfl) hInv (by assumption) (by rfl) ?_ (fun hInv2 => ?_)
  rotate_left
  · (intro w hSw; (try dsimp only at hSw); have hSx := x0 _ hSw; go_simp; (try with_reducible rfl))
  clear hInv; have hInv := hInv2; clear hInv2
  simp only [Act.put, List.setIfInBounds_toArray, List.set_cons_zero, List.set_cons_succ]
  refine WpEnd.take (i := 8) (some 134) (v := ?_) rfl rfl (by kernel_rfl) (by kernel_rfl) (by kernel_rfl) (fun _ _ _ h => h) (by kernel_rfl) hInv (by assumption) (by rfl) ?_ (fun hInv2 => ?_)
  rotate_left
  · (intro w hSw; (try dsimp only at hSw); have hSx := x0 _ hSw; go_simp; (try with_reducible rfl))
  clear hInv; have hInv := hInv2; clear hInv2
  simp only [Act.put, List.setIfInBounds_toArray, List.set_cons_zero, List.set_cons_succ]
  refine WpEnd.ready (rs := [9]) (by kernel_rfl) (by simp) ?_
  refine EachEnd.cons (some 135) rfl rfl (by decide) (by kernel_rfl) hInv (fun K hKK hKB => ?_) EachEnd.nil
  refine step_call rfl 29 #[.tmp 134] _ rfl #[.pointer (some ⟨gg, 0, none⟩)] (by kernel_rfl) (fun x V => x = .int .u32 (nw : Nat) ∧ Below (W.drew).heap.size (W.drew) V) ((HW.out (W.drew) (HP.out.below hL0).farm).mono fun e V h => ⟨_, h.1, rfl, h.2⟩) ?_
  rintro x Wc ⟨rfl, hb⟩
  replace hL0 := hL0.trans (hb.mono hL0.size)
  clear hb
  refine hKK.out _ _ ((Keep.refl _ _).below hL0 (Nat.le_refl _)) (fun hInv2 hHeld2 => ?_)
  clear hKK hKB K hInv hHeld; have hInv := hInv2; have hHeld := hHeld2; clear hInv2 hHeld2
  simp only [Act.put, List.setIfInBounds_toArray, List.set_cons_zero, List.set_cons_succ]
  refine WpEnd.ready (rs := [10]) (by kernel_rfl) (by simp) ?_
  refine EachEnd.cons (some 136) rfl rfl (by decide) (by kernel_rfl) hInv (fun K hKK hKB => ?_) EachEnd.nil
  refine step_build_1 22 38 (u32Row [nw]) rfl _ rfl _ rfl (build_w1 _ nw) ?_
  have hL1 := hL0.alloc hL0.size (Obj.cells (u32Row [nw]).toArray 38)
  have hy1 := Blk.new Wc (u32Row [nw]) 38
  obtain ⟨nb, hnb⟩ : ∃ nb, nb = (Wc).heap.size := ⟨_, rfl⟩
  rw [← hnb] at hy1 ⊢
  obtain ⟨Wb, hWb⟩ : ∃ Wb, Wb = (Wc).alloc (Obj.cells (u32Row [nw]).toArray 38) := ⟨_, rfl⟩
  rw [← hWb] at hL1 hy1 ⊢
  refine hKK.out _ _ ((Keep.refl _ _).below hL1 (Nat.le_refl _)) (fun hInv2 hHeld2 => ?_)
  clear hKK hKB K hWb hnb hInv hHeld; have hInv := hInv2; have hHeld := hHeld2; clear hInv2 hHeld2
  simp only [Act.put, List.setIfInBounds_toArray, List.set_cons_zero, List.set_cons_succ]
  refine WpEnd.ready (rs := [11]) (by kernel_rfl) (by simp) ?_
  refine EachEnd.cons (some 137) rfl rfl (by decide) (by kernel_rfl) hInv (fun K hKK hKB => ?_) EachEnd.nil
  refine step_append_q 22 38 1 4 i0 (.int .u32 0) rfl _ _ rfl Try.underlying22 hi0 hz0 rfl hz1 hz2 0 dv p.down.length _ rfl (q_below HP.out.down hL1 (Nat.le_refl _)) nb 0 1 1 (u32Row [nw]) rfl rfl (u32Row_one _) (fun j u hj => by rw [Nat.zero_add]; exact (hy1.cell j).trans hj) (by omega) (by unfold maxLen; omega) (Nat.zero_le _) ?_
  intro v' Wd hq2 hk2 hm2
  refine hKK.out _ _ (((Keep.refl _ _).below hL1 (Nat.le_refl _)).trans hk2) (fun hInv2 hHeld2 => ?_)
  clear hKK hKB K hInv hHeld; have hInv := hInv2; have hHeld := hHeld2; clear hInv2 hHeld2
  simp only [Act.put, List.setIfInBounds_toArray, List.set_cons_zero, List.set_cons_succ]
  refine WpEnd.take (i := 12) (some 138) (v := ?_) rfl rfl (by kernel_rfl) (by kernel_rfl) (by kernel_rfl) (fun _ _ _ h => h) (by kernel_rfl) hInv (by assumption) (by rfl) ?_ (fun hInv2 => ?_)
  rotate_left
  · (intro w hSw; (try dsimp only at hSw); have hSx := x0 _ hSw; go_simp; (try with_reducible rfl))
  clear hInv; have hInv := hInv2; clear hInv2
  simp only [Act.put, List.setIfInBounds_toArray, List.set_cons_zero, List.set_cons_succ]
  refine WpEnd.take (i := 13) (some 139) (v := ?_) rfl rfl (by kernel_rfl) (by kernel_rfl) (by kernel_rfl) (fun _ _ _ h => h) (by kernel_rfl) hInv (by assumption) (by rfl) ?_ (fun hInv2 => ?_)
  rotate_left
  · (intro w hSw; (try dsimp only at hSw); have hSx := x0 _ hSw; go_simp; (try with_reducible rfl))
  clear hInv; have hInv := hInv2; clear hInv2
  simp only [Act.put, List.setIfInBounds_toArray, List.set_cons_zero, List.set_cons_succ]
  refine WpEnd.ready (rs := [14]) (by kernel_rfl) (by simp) ?_
  refine EachEnd.last rfl (fun K hKK => ?_)
  have c0 := (HP.out.sure (v := dv) (by simp) hHeld).1.cell 3
  have f0 := (HP.out.sure (v := dv) (by simp) hHeld).1.free 3
  simp only [pairCells, List.getElem?_cons_zero, List.getElem?_cons_succ] at c0
  have hP3 := HP.out.pushDown (l := (p.down ++ [nw])) hL1 hk2 hm2 (by simp only [List.length_append, List.length_singleton, u32Row_app]; exact hq2)
  obtain ⟨ra, rc, hve⟩ := qform hq2
  subst hve
  go_simp
  refine hKK.out _ _ ?_
  clear hKK K
  refine WpEnd.done (by kernel_rfl) ?_ _
  refine post_any (fun W' => PairAt w W' P gf gg uv (.slice ra (p.down.length + 1) rc) nv av { p with down := (p.down ++ [nw]) }) hP3 ?_
  clear hP3  hm2 hq2 hk2 hy1 hL1 hL0 hHeld hInv c0 f0 x0 hi0 hz0 hz1 hz2 i0 HW
  rintro W3 hP3
  have HP3 := Lib.hid hP3
  clear hP3 HP
  go_wp2_with fail
  go_ret
  exact ⟨rfl, _, _, _, _, _, HP3.out, HF.out⟩
set_option maxHeartbeats 8000000 in
set_option maxRecDepth 100000 in
theorem act_word11 (hI : Inv k n0 L tm p ups dws b) (hS : Sz c p ups dws) (hcc : c ≤ 3000) (n : Int) (m : Nat) (hn : I64 n) (hm : (m : Int) = n % 640) (hc : m % 16 = 11) (hP : PairAt w W P gf gg uv dv nv av p) :
    Calls Try.prog 26 #[.pointer (some ⟨P, 0, none⟩), .int .i64 n] W fun e w' => Stepped k n0 L tm (c + 1) w P gf gg e w' := by
  have h1 := hS.un; have h2 := hS.ul; have h3 := hS.dl
  have HW := Lib.hid (fun (W1 : World) hB => word_calls (gg := gg) hI W1 hB)
  have hF : Fin k n0 L tm (c + 1) { p with down := p.down ++ [wordP n0 p, wordP n0 p] } := by
    have := hI.word.word
    rw [List.append_assoc] at this
    exact this.fin (by show p.units.length ≤ _; omega) (by omega) (by simp; omega)
  obtain ⟨nw, hnw⟩ : ∃ nw, nw = wordP n0 p := ⟨_, rfl⟩
  rw [← hnw] at HW hF
  have hdl : p.down.length ≤ 6000 := by rw [hI.hdown, List.length_map]; omega
  have HF := Lib.hid hF
  have HP := Lib.hid hP
  have HK := Lib.hid (fun W => pick_any n 640 W (by omega) (by omega) hn.1 hn.2)
  rw [← hm] at HK
  have hc2 : ((m : Int) % 16) = 11 := by omega
  clear hI hS hF hP hm hn h1 h2 h3 hnw
  go_enter Try.func26, Try.ntmps26
  go_wp2_with fail
  refine (HK.out _).mono ?_
  rintro e _ ⟨rfl, rfl⟩
  clear HK
  go_upto_region 27 with fail
  obtain ⟨i0, hi0, hz0, hz1, hz2⟩ := info_parts info_u32
  have x0 : ∀ W', Keep dv.ownBlock.toList W W' → (W'.cell? ⟨P, 3, none⟩ = some dv ∧ W'.cell? ⟨P, 1, none⟩ = some (.pointer (some ⟨gg, 0, none⟩))) := fun W' k => ⟨(HP.out.sure (v := dv) (by simp) k).1.cell 3, (HP.out.sure (v := dv) (by simp) k).1.cell 1⟩
  refine region_end (fun W' => Keep dv.ownBlock.toList W W') 19 (by kernel_rfl) ((Keep.refl _ _).drew) (fun hInv hHeld => ?_)
  have hL0 : Below W.heap.size W W.drew := (Below.refl _ _).drew
  refine WpEnd.take (i := 0) (some 142) (v := ?_) rfl rfl (by kernel_rfl) (by kernel_rfl) (by kernel_rfl) (fun _ _ _ h => h) (by kernel_rfl) hInv (by assumption) (by rfl) ?_ (fun hInv2 => ?_)
  rotate_left
  · (intro w hSw; (try dsimp only at hSw); have hSx := x0 _ hSw; go_simp; (try with_reducible rfl))
  clear hInv; have hInv := hInv2; clear hInv2
  simp only [Act.put, List.setIfInBounds_toArray, List.set_cons_zero, List.set_cons_succ]
  refine WpEnd.take (i := 1) (some 143) (v := ?_) rfl rfl (by kernel_rfl) (by kernel_rfl) (by kernel_rfl) (fun _ _ _ h => h) (by kernel_rfl) hInv (by assumption) (by rfl) ?_ (fun hInv2 => ?_)
  rotate_left
  · (intro w hSw; (try dsimp only at hSw); have hSx := x0 _ hSw; go_simp; (try with_reducible rfl))
  clear hInv; have hInv := hInv2; clear hInv2
  simp only [Act.put, List.setIfInBounds_toArray, List.set_cons_zero, List.set_cons_succ]
  refine WpEnd.take (i := 2) (some 144) (v := ?_) rfl rfl (by kernel_rfl) (by kernel_rfl) (by kernel_rfl) (fun _ _ _ h => h) (by kernel_rfl) hInv (by assumption) (by rfl) ?_ (fun hInv2 => ?_)
  rotate_left
  · (intro w hSw; (try dsimp only at hSw); have hSx := x0 _ hSw; go_simp; (try with_reducible rfl))
  clear hInv; have hInv := hInv2; clear hInv2
  simp only [Act.put, List.setIfInBounds_toArray, List.set_cons_zero, List.set_cons_succ]
  refine WpEnd.take (i := 3) (some 145) (v := ?_) rfl rfl (by kernel_rfl) (by kernel_rfl) (by kernel_rfl) (fun _ _ _ h => h) (by kernel_rfl) hInv (by assumption) (by rfl) ?_ (fun hInv2 => ?_)
  rotate_left
  · (intro w hSw; (try dsimp only at hSw); have hSx := x0 _ hSw; go_simp; (try with_reducible rfl))
  clear hInv; have hInv := hInv2; clear hInv2
  simp only [Act.put, List.setIfInBounds_toArray, List.set_cons_zero, List.set_cons_succ]
  refine WpEnd.take (i := 4) (some 146) (v := ?_) rfl rfl (by kernel_rfl) (by kernel_rfl) (by kernel_rfl) (fun _ _ _ h => h) (by kernel_rfl) hInv (by assumption) (by rfl) ?_ (fun hInv2 => ?_)
  rotate_left
  · (intro w hSw; (try dsimp only at hSw); have hSx := x0 _ hSw; go_simp; (try with_reducible rfl))
  clear hInv; have hInv := hInv2; clear hInv2
  simp only [Act.put, List.setIfInBounds_toArray, List.set_cons_zero, List.set_cons_succ]
  refine WpEnd.take (i := 5) (some 147) (v := ?_) rfl rfl (by kernel_rfl) (by kernel_rfl) (by kernel_rfl) (fun _ _ _ h => h) (by kernel_rfl) hInv (by assumption) (by rfl) ?_ (fun hInv2 => ?_)
  rotate_left
  · (intro w hSw; (try dsimp only at hSw); have hSx := x0 _ hSw; go_simp; (try with_reducible rfl))
  clear hInv; have hInv := hInv2; clear hInv2
  simp only [Act.put, List.setIfInBounds_toArray, List.set_cons_zero, List.set_cons_succ]
  refine WpEnd.take (i := 6) (some 148) (v := ?_) rfl rfl (by kernel_rfl) (by kernel_rfl) (by kernel_rfl) (fun _ _ _ h => h) (by kernel_rfl) hInv (by assumption) (by rfl) ?_ (fun hInv2 => ?_)
  rotate_left
  · (intro w hSw; (try dsimp only at hSw); have hSx := x0 _ hSw; go_simp; (try with_reducible rfl))
  clear hInv; have hInv := hInv2; clear hInv2
  simp only [Act.put, List.setIfInBounds_toArray, List.set_cons_zero, List.set_cons_succ]
  refine WpEnd.take (i := 7) (some 149) (v := ?_) rfl rfl (by kernel_rfl) (by kernel_rfl) (by kernel_rfl) (fun _ _ _ h => h) (by kernel_rfl) hInv (by assumption) (by rfl) ?_ (fun hInv2 => ?_)
  rotate_left
  · (intro w hSw; (try dsimp only at hSw); have hSx := x0 _ hSw; go_simp; (try with_reducible rfl))
  clear hInv; have hInv := hInv2; clear hInv2
  simp only [Act.put, List.setIfInBounds_toArray, List.set_cons_zero, List.set_cons_succ]
  refine WpEnd.take (i := 8) (some 150) (v := ?_) rfl rfl (by kernel_rfl) (by kernel_rfl) (by kernel_rfl) (fun _ _ _ h => h) (by kernel_rfl) hInv (by assumption) (by rfl) ?_ (fun hInv2 => ?_)
  rotate_left
  · (intro w hSw; (try dsimp only at hSw); have hSx := x0 _ hSw; go_simp; (try with_reducible rfl))
  clear hInv; have hInv := hInv2; clear hInv2
  simp only [Act.put, List.setIfInBounds_toArray, List.set_cons_zero, List.set_cons_succ]
  refine WpEnd.take (i := 10) (some 152) (v := ?_) rfl rfl (by kernel_rfl) (by kernel_rfl) (by kernel_rfl) (fun _ _ _ h => h) (by kernel_rfl) hInv (by assumption) (by rfl) ?_ (fun hInv2 => ?_)
  rotate_left
  · (intro w hSw; (try dsimp only at hSw); have hSx := x0 _ hSw; go_simp; (try with_reducible rfl))
  clear hInv; have hInv := hInv2; clear hInv2
  simp only [Act.put, List.setIfInBounds_toArray, List.set_cons_zero, List.set_cons_succ]
  refine WpEnd.take (i := 11) (some 153) (v := ?_) rfl rfl (by kernel_rfl) (by kernel_rfl) (by kernel_rfl) (fun _ _ _ h => h) (by kernel_rfl) hInv (by assumption) (by rfl) ?_ (fun hInv2 => ?_)
  rotate_left
  · (intro w hSw; (try dsimp only at hSw); have hSx := x0 _ hSw; go_simp; (try with_reducible rfl))
  clear hInv; have hInv := hInv2; clear hInv2
  simp only [Act.put, List.setIfInBounds_toArray, List.set_cons_zero, List.set_cons_succ]
  refine WpEnd.take (i := 12) (some 154) (v := ?_) rfl rfl (by kernel_rfl) (by kernel_rfl) (by kernel_rfl) (fun _ _ _ h => h) (by kernel_rfl) hInv (by assumption) (by rfl) ?_ (fun hInv2 => ?_)
  rotate_left
  · (intro w hSw; (try dsimp only at hSw); have hSx := x0 _ hSw; go_simp; (try with_reducible rfl))
  clear hInv; have hInv := hInv2; clear hInv2
  simp only [Act.put, List.setIfInBounds_toArray, List.set_cons_zero, List.set_cons_succ]
  refine WpEnd.take (i := 13) (some 155) (v := ?_) rfl rfl (by kernel_rfl) (by kernel_rfl) (by kernel_rfl) (fun _ _ _ h => h) (by kernel_rfl) hInv (by assumption) (by rfl) ?_ (fun hInv2 => ?_)
  rotate_left
  · (intro w hSw; (try dsimp only at hSw); have hSx := x0 _ hSw; go_simp; (try with_reducible rfl))
  clear hInv; have hInv := hInv2; clear hInv2
  simp only [Act.put, List.setIfInBounds_toArray, List.set_cons_zero, List.set_cons_succ]
  refine WpEnd.ready (rs := [9]) (by kernel_rfl) (by simp) ?_
  refine EachEnd.cons (some 151) rfl rfl (by decide) (by kernel_rfl) hInv (fun K hKK hKB => ?_) EachEnd.nil
  refine step_call rfl 29 #[.tmp 150] _ rfl #[.pointer (some ⟨gg, 0, none⟩)] (by kernel_rfl) (fun x V => x = .int .u32 (nw : Nat) ∧ Below (W.drew).heap.size (W.drew) V) ((HW.out (W.drew) (HP.out.below hL0).farm).mono fun e V h => ⟨_, h.1, rfl, h.2⟩) ?_
  rintro x Wb1 ⟨rfl, hb⟩
  replace hL0 := hL0.trans (hb.mono hL0.size)
  clear hb
  refine hKK.out _ _ ((Keep.refl _ _).below hL0 (Nat.le_refl _)) (fun hInv2 hHeld2 => ?_)
  clear hKK hKB K hInv hHeld; have hInv := hInv2; have hHeld := hHeld2; clear hInv2 hHeld2
  simp only [Act.put, List.setIfInBounds_toArray, List.set_cons_zero, List.set_cons_succ]
  refine WpEnd.ready (rs := [14]) (by kernel_rfl) (by simp) ?_
  refine EachEnd.cons (some 156) rfl rfl (by decide) (by kernel_rfl) hInv (fun K hKK hKB => ?_) EachEnd.nil
  refine step_call rfl 29 #[.tmp 155] _ rfl #[.pointer (some ⟨gg, 0, none⟩)] (by kernel_rfl) (fun x V => x = .int .u32 (nw : Nat) ∧ Below (Wb1).heap.size (Wb1) V) ((HW.out (Wb1) (HP.out.below hL0).farm).mono fun e V h => ⟨_, h.1, rfl, h.2⟩) ?_
  rintro x Wc ⟨rfl, hb⟩
  replace hL0 := hL0.trans (hb.mono hL0.size)
  clear hb
  refine hKK.out _ _ ((Keep.refl _ _).below hL0 (Nat.le_refl _)) (fun hInv2 hHeld2 => ?_)
  clear hKK hKB K hInv hHeld; have hInv := hInv2; have hHeld := hHeld2; clear hInv2 hHeld2
  simp only [Act.put, List.setIfInBounds_toArray, List.set_cons_zero, List.set_cons_succ]
  refine WpEnd.ready (rs := [15]) (by kernel_rfl) (by simp) ?_
  refine EachEnd.cons (some 157) rfl rfl (by decide) (by kernel_rfl) hInv (fun K hKK hKB => ?_) EachEnd.nil
  refine step_build_2 22 38 (u32Row [nw, nw]) rfl _ _ rfl _ _ rfl rfl (build_w2 _ nw nw) ?_
  have hL1 := hL0.alloc hL0.size (Obj.cells (u32Row [nw, nw]).toArray 38)
  have hy1 := Blk.new Wc (u32Row [nw, nw]) 38
  obtain ⟨nb, hnb⟩ : ∃ nb, nb = (Wc).heap.size := ⟨_, rfl⟩
  rw [← hnb] at hy1 ⊢
  obtain ⟨Wb, hWb⟩ : ∃ Wb, Wb = (Wc).alloc (Obj.cells (u32Row [nw, nw]).toArray 38) := ⟨_, rfl⟩
  rw [← hWb] at hL1 hy1 ⊢
  refine hKK.out _ _ ((Keep.refl _ _).below hL1 (Nat.le_refl _)) (fun hInv2 hHeld2 => ?_)
  clear hKK hKB K hWb hnb hInv hHeld; have hInv := hInv2; have hHeld := hHeld2; clear hInv2 hHeld2
  simp only [Act.put, List.setIfInBounds_toArray, List.set_cons_zero, List.set_cons_succ]
  refine WpEnd.ready (rs := [16]) (by kernel_rfl) (by simp) ?_
  refine EachEnd.cons (some 158) rfl rfl (by decide) (by kernel_rfl) hInv (fun K hKK hKB => ?_) EachEnd.nil
  refine step_append_q 22 38 1 4 i0 (.int .u32 0) rfl _ _ rfl Try.underlying22 hi0 hz0 rfl hz1 hz2 0 dv p.down.length _ rfl (q_below HP.out.down hL1 (Nat.le_refl _)) nb 0 2 2 (u32Row [nw, nw]) rfl rfl (u32Row_one _) (fun j u hj => by rw [Nat.zero_add]; exact (hy1.cell j).trans hj) (by omega) (by unfold maxLen; omega) (Nat.zero_le _) ?_
  intro v' Wd hq2 hk2 hm2
  refine hKK.out _ _ (((Keep.refl _ _).below hL1 (Nat.le_refl _)).trans hk2) (fun hInv2 hHeld2 => ?_)
  clear hKK hKB K hInv hHeld; have hInv := hInv2; have hHeld := hHeld2; clear hInv2 hHeld2
  simp only [Act.put, List.setIfInBounds_toArray, List.set_cons_zero, List.set_cons_succ]
  refine WpEnd.take (i := 17) (some 159) (v := ?_) rfl rfl (by kernel_rfl) (by kernel_rfl) (by kernel_rfl) (fun _ _ _ h => h) (by kernel_rfl) hInv (by assumption) (by rfl) ?_ (fun hInv2 => ?_)
  rotate_left
  · (intro w hSw; (try dsimp only at hSw); have hSx := x0 _ hSw; go_simp; (try with_reducible rfl))
  clear hInv; have hInv := hInv2; clear hInv2
  simp only [Act.put, List.setIfInBounds_toArray, List.set_cons_zero, List.set_cons_succ]
  refine WpEnd.take (i := 18) (some 160) (v := ?_) rfl rfl (by kernel_rfl) (by kernel_rfl) (by kernel_rfl) (fun _ _ _ h => h) (by kernel_rfl) hInv (by assumption) (by rfl) ?_ (fun hInv2 => ?_)
  rotate_left
  · (intro w hSw; (try dsimp only at hSw); have hSx := x0 _ hSw; go_simp; (try with_reducible rfl))
  clear hInv; have hInv := hInv2; clear hInv2
  simp only [Act.put, List.setIfInBounds_toArray, List.set_cons_zero, List.set_cons_succ]
  refine WpEnd.ready (rs := [19]) (by kernel_rfl) (by simp) ?_
  refine EachEnd.last rfl (fun K hKK => ?_)
  have c0 := (HP.out.sure (v := dv) (by simp) hHeld).1.cell 3
  have f0 := (HP.out.sure (v := dv) (by simp) hHeld).1.free 3
  simp only [pairCells, List.getElem?_cons_zero, List.getElem?_cons_succ] at c0
  have hP3 := HP.out.pushDown (l := (p.down ++ [nw, nw])) hL1 hk2 hm2 (by simp only [List.length_append, List.length_singleton, u32Row_app]; exact hq2)
  obtain ⟨ra, rc, hve⟩ := qform hq2
  subst hve
  go_simp
  refine hKK.out _ _ ?_
  clear hKK K
  refine WpEnd.done (by kernel_rfl) ?_ _
  refine post_any (fun W' => PairAt w W' P gf gg uv (.slice ra (p.down.length + 2) rc) nv av { p with down := (p.down ++ [nw, nw]) }) hP3 ?_
  clear hP3  hm2 hq2 hk2 hy1 hL1 hL0 hHeld hInv c0 f0 x0 hi0 hz0 hz1 hz2 i0 HW
  rintro W3 hP3
  have HP3 := Lib.hid hP3
  clear hP3 HP
  go_wp2_with fail
  go_ret
  exact ⟨rfl, _, _, _, _, _, HP3.out, HF.out⟩
end
end
end Go.Proofs.Ytbncejmohhejlaa
