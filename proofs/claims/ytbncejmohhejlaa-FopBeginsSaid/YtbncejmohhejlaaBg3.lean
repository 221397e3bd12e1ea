/- What is proved here: the walk of the law about the beginning of a service. -/
import Derived.Test.YtbncejmohhejlaaBg2
import Derived.Test.YtbncejmohhejlaaPw14
import Derived.Test.YtbncejmohhejlaaBnd
set_option linter.unusedVariables false
set_option linter.unusedSimpArgs false
namespace Go.Proofs.Ytbncejmohhejlaa
open Go.RowKit
def begS (how n : Int) : Fs := { beginF (newF 1 2 5 3 10) how n with due := false, given := how != 2 }
def begR (how n xn : Int) : Fs := { startR (begS how n) xn with events := [] }
def begW (how n xn : Int) : Fs := sendF (begR how n xn) ⟨#[97]⟩
def begN (how n xn : Int) : Fs := newSent (begW how n xn) ⟨1, ⟨#[97]⟩, false⟩ []
section
variable (how n xn : Int) (g : Nat) (S : List Nat) (w : World)
theorem begS_serv (h : how = 2 ∨ how = 3 ∨ how = 4) : (begS how n).service = 1 := by
  rcases h with rfl | rfl | rfl <;> rfl
theorem beg_send (h : FopIn w g S (begR how n xn)) : Calls Try.prog 16 #[.pointer (some ⟨g, 0, none⟩), .string ⟨#[97]⟩] w fun e w' => e = .returned (.tuple #[.int .i64 1, .int .i64 0]) ∧ FopTo w w' g S (begW how n xn) :=
  Send_ok (begR how n xn) g S w ⟨#[97]⟩ rfl rfl (show 0 < 256 by decide) (show (0 : Int) ≤ 0 by decide) (show (0 : Int) ≤ 1000000000 by decide) (show (5 : Int) ≠ 0 by decide) h
theorem beg_next (h0 : 0 ≤ xn) (h1 : xn ≤ 255) (hl : ∀ i ∈ S, i < w.heap.size) (h : FopIn w g S (begW how n xn)) : Calls Try.prog 13 #[.pointer (some ⟨g, 0, none⟩)] w fun e w' => e = .returned (.tuple #[.agg #[.int .i64 1, .int .i64 2, .bool false, .bool false, .int .i64 xn, .string ⟨#[97]⟩], .bool true]) ∧ FopTo w w' g S (begN how n xn) := by
  have := Next_new (begW how n xn) g S w ⟨1, ⟨#[97]⟩, false⟩ [] rfl (by simp) h0 h1 (fun k hk => absurd hk (Nat.not_lt_zero _)) (Nat.zero_le _) hl rfl rfl rfl rfl rfl (show (0 : Int) < 5 by decide) (show (5 : Int) ≠ 0 by decide) h
  rw [show (((begW how n xn).base + ((begW how n xn).sent.length : Int)) % 256) = xn from (by show (xn + ((0 : Nat) : Int)) % 256 = xn; omega)] at this
  exact this
end
section
open Go.ChangeShapes Go.WideShapes Go.ChangeAt Go.Deep
variable {H : Type} {enc : TypeId × Value → H} {w : World} {base : Nat} {spare : Nat → Bool} {held : Bool}
set_option maxRecDepth 100000 in
theorem open_words {r : Reach} {b0 : Nat} {v : Value} {d : DataW H} {p : List MemPlace} (hv : Value.okWide Try.prog w r b0 22 v) (h : DataW.Trod enc Try.prog w base spare held 22 v d p) :
    ∃ a n cap, ∃ S : Nat → Int, v = .slice a n cap ∧ n ≤ 9223372036854775807 ∧ RowAt w a n (fun i => .int .u32 (S i)) ∧ ∀ i, i < n → 0 ≤ S i ∧ S i ≤ 4294967295 := by
  obtain ⟨fuel, hf⟩ := h
  obtain ⟨a0, len, cap, rfl⟩ := okWide_slice Try.underlying22 hv
  rcases open_slice Try.underlying22 hf with ⟨hcs, hx⟩ | ⟨a, len', cap', m, n, D, Pl, hcs, hb, hl, hm, hmm, hx, hel⟩
  · simp [Value.cells] at hcs
    obtain ⟨rfl, rfl, rfl⟩ := hcs
    exact ⟨none, 0, 0, fun _ => 0, rfl, by omega, fun i hi => by omega, fun i hi => by omega⟩
  · simp [Value.cells] at hcs
    obtain ⟨rfl, rfl, rfl⟩ := hcs
    have hc1 : Try.prog.cellsOf 38 = 1 := by kernel_rfl
    have hlm : len ≤ m := by rw [hmm]; split <;> omega
    obtain ⟨b, off, spot⟩ := a
    have hspot : 0 < len → spot = none := fun h0 => by
      obtain ⟨cs', h1, h2⟩ := hel 0 (by omega)
      obtain ⟨s, rfl, _⟩ := DataW.trod_int Try.underlying38 h2
      rw [hc1] at h1
      obtain ⟨_, _, hc⟩ := World.cells?_some h1
      have c0 := hc 0 (by omega)
      have := World.cell?_spot (c0.trans rfl)
      simpa [Addr.add] using this
    have each : ∀ i, i < len → ∃ s : Int, b < w.heap.size ∧ w.cell? ⟨b, off + i, none⟩ = some (.int .u32 s) ∧ (Lit.int .u32 s).wf = true := fun i hi => by
      obtain ⟨cs', h1, h2⟩ := hel i (by omega)
      obtain ⟨s, rfl, _, hw⟩ := DataW.trod_int Try.underlying38 h2
      rw [hc1] at h1
      obtain ⟨_, _, hc⟩ := World.cells?_some h1
      obtain rfl := hspot (by omega)
      have hcell : w.cell? ⟨b, off + i, none⟩ = some (.int .u32 s) := by
        have := hc 0 (by omega)
        rw [add_add] at this
        rw [show (some (Value.int .u32 s) : Option Value) = [Value.int .u32 s][0]? from rfl, ← this]
        congr 1
        unfold Addr.add
        split
        · rename_i h; rw [show off + i = off by omega]
        · simp only [Addr.mk.injEq, and_true, true_and]; omega
      exact ⟨s, World.block_lt_of_cell? _ _ hcell, hcell, hw⟩
    obtain ⟨S, hS⟩ := choose_lt (α := Int) each
    refine ⟨some ⟨b, off, spot⟩, len, cap, S, rfl, ?_, fun i hi => ?_, fun i hi => bounds_u32 (hS i hi).2.2⟩
    · have : cap ≤ 9223372036854775807 := hm
      omega
    · obtain ⟨h1, h2, _⟩ := hS i hi
      obtain rfl := hspot (by omega)
      exact ⟨b, off, rfl, h1, h2⟩
end
set_option maxHeartbeats 8000000 in
set_option maxRecDepth 100000 in
theorem FopBegins_out (a c : Int) (sa : Option Addr) (sn sc : Nat) (w : World) (hsn : sn ≤ 9223372036854775807) (ht : 100 < sn) :
    Calls Try.prog 3 #[.int .i64 a, .int .i64 c, .slice sa sn sc] w fun e w' => e = .returned (.bool true) ∧ Below w.heap.size w w' := by
  have k1 : (100 : Int) < (sn : Int) := by omega
  go_enter Try.func3, Try.ntmps3
  go_wp2_with fail
  refine (shown15_any _).mono ?_
  rintro e w1 ⟨rfl, hL⟩
  have HL := Lib.hid hL; clear hL
  go_wp2_with fail
  go_ret
  exact ⟨rfl, HL.out⟩
set_option maxHeartbeats 16000000 in
set_option maxRecDepth 100000 in
theorem FopBegins_in2 (a c : Int) (sa : Option Addr) (sn sc : Nat) (S : Nat → Int) (w : World) (ha : I64 a) (hc : I64 c) (hway : a % 3 = 0) (hsn : sn ≤ 100) (hr : RowAt w sa sn (fun i => .int .u32 (S i))) (hS : ∀ i, i < sn → 0 ≤ S i ∧ S i ≤ 4294967295) :
    Calls Try.prog 3 #[.int .i64 a, .int .i64 c, .slice sa sn sc] w fun e w' => e = .returned (.bool true) ∧ Below w.heap.size w w' := by
  have HR := Lib.hid hr
  have HSS := Lib.hid hS
  have PA := Lib.hid (fun W => pick_any a 3 W (by omega) (by omega) ha.1 ha.2)
  have PC := Lib.hid (fun W => pick_any c 256 W (by omega) (by omega) hc.1 hc.2)
  rw [hway] at PA
  obtain ⟨n, hn⟩ : ∃ n, n = c % 256 := ⟨_, rfl⟩
  have hn0 : 0 ≤ n := by omega
  have hn1 : n ≤ 255 := by omega
  rw [← hn] at PC
  have k0 : ¬ (100 : Int) < (sn : Int) := by omega
  clear hr hS ha hc hway hn
  go_enter Try.func3, Try.ntmps3
  go_wp2_with fail
  refine (shown15_any _).mono ?_
  rintro e w1 ⟨rfl, hL⟩
  have HL := Lib.hid hL; clear hL
  go_wp2_with fail
  refine (PA.out _).mono ?_
  rintro e _ ⟨rfl, rfl⟩
  go_wp2_with fail
  refine (PC.out _).mono ?_
  rintro e _ ⟨rfl, rfl⟩
  clear PA PC
  go_wp2_with fail
  refine (foNew_ok 1 2 5 3 10 _ (by omega) (by omega) (by omega) (by omega) (by omega) (by omega) (by omega) (by omega) (by omega) (by omega)).mono ?_
  rintro e w2 ⟨rfl, hL2, hI⟩
  obtain ⟨g, hg⟩ : ∃ g, g = w1.heap.size := ⟨_, rfl⟩
  rw [← hg] at hI ⊢
  have HX := Lib.hid (show Fx w1 w2 g [] (newF 1 2 5 3 10) from Fx.start hg hL2 hI)
  clear hL2 hI hg
  go_wp2_with fail
  obtain ⟨S1, hI, hlt, hnx, hgv⟩ := HX.out.call
  refine (Begin_ok 2 n (newF 1 2 5 3 10) g S1 _ (by omega) (by omega) hn0 hn1 rfl (show (5 : Int) ≠ 0 by decide) hI).mono ?_
  rintro e w3 ⟨rfl, hT⟩
  obtain ⟨hX, hR⟩ := hnx hT
  replace HX := Lib.hid (show Fx w1 w3 g [] (beginF (newF 1 2 5 3 10) 2 n) from hX)
  clear hI hlt hnx hgv hX hR hT
  go_wp2_with fail
  obtain ⟨S1, hI, -⟩ := HX.out.call
  refine (Ready_in (beginF (newF 1 2 5 3 10) 2 n) g S1 _ (show (5 : Int) ≠ 0 by decide) hI).mono ?_
  rintro e _ ⟨rfl, rfl⟩
  clear hI
  rw [show ((beginF (newF 1 2 5 3 10) 2 n).service == 2) = false from rfl]
  go_wp2_with fail
  obtain ⟨S1, hI, hlt, hnx, hgv⟩ := HX.out.call
  refine (Next_down (begS 2 n) g S1 _ hlt rfl rfl rfl (.inl (show (1 : Int) ≠ 2 by decide)) (show (5 : Int) ≠ 0 by decide) hI).mono ?_
  rintro e w5 ⟨rfl, hT⟩
  obtain ⟨hX, hR⟩ := hnx hT
  have hX5 : Fx w1 w5 g [] (begS 2 n) := hX
  replace HX := Lib.hid (hX5.below ((Below.refl _ _).alloc (Nat.le_refl _) (Obj.cells #[.int .i64 0, .int .i64 0, .bool false, .bool false, .int .i64 0, .string ⟨#[]⟩] 31)))
  clear hI hlt hnx hgv hX hR hT hX5
  go_upto_region 13 with fail
  refine gen_world (fun W => Fx w1 W g [] (begS 2 n)) HX.out ?_
  clear HX
  rintro w6 hX
  have HX0 := Lib.hid hX; clear hX
  go_wp2_with fail
  go_loopw [13] (fun iv wr => ∃ i : Nat, i ≤ sn ∧ iv = .int .i64 i ∧ Fx w1 wr g [] (begS 2 n)) (fun iv _ => sn - (intOf iv).toNat)
  case atStart => exact ⟨0, Nat.zero_le _, rfl, HX0.out⟩
  case round =>
    obtain ⟨i, hi, rfl, hX⟩ := hrel
    have HX := Lib.hid hX
    have HW := Lib.hid (HL.out.trans (hX.toBelow.mono HL.out.size))
    clear hX HX0
    by_cases hlt : i < sn
    · have hlt2 : (i : Int) < (sn : Int) := by omega
      obtain ⟨q, off, hsa, hql, hcell⟩ := HR.out.below HW.out (Nat.le_refl _) i hlt
      subst hsa
      have hbd := HSS.out i hlt
      obtain ⟨m, hm⟩ : ∃ m : Nat, (m : Int) = S i := ⟨(S i).toNat, by omega⟩
      have hcell0 : wr.cell? ⟨q, off + i, none⟩ = some (.int .u32 (m : Int)) := by rw [hm]; exact hcell
      have hml : m < 4294967296 := by omega
      clear hm hbd hcell
      go_wp2_with fail
      refine (ReadWord_any m _ hml).mono ?_
      rintro e w7 ⟨rfl, hL7⟩
      have hcell7 := (hL7.cell (p := ⟨q, off + i, none⟩) (World.block_lt_of_cell? _ _ hcell0)).trans hcell0
      have hX7 := HX.out.below hL7
      clear hcell0 HX
      by_cases hf : rdN m = m
      · have hv : readV m = .tuple #[(rdW m).val, .int .i64 0] := by unfold readV; rw [if_pos hf]
        have hb : 0 ≤ (rdW m).next ∧ (rdW m).next ≤ 255 := by
          unfold rdW
          constructor
          · exact Int.natCast_nonneg _
          · show ((m % 256 : Nat) : Int) ≤ 255; omega
        obtain ⟨X, hXe⟩ : ∃ X, X = rdW m := ⟨_, rfl⟩
        rw [← hXe] at hv hb
        clear hXe hf
        obtain ⟨xc, xl, xw, xr, xb, xn⟩ := X
        simp only [Wd.val] at hv
        simp only at hb
        rw [hv]
        have hcell8 := (((Below.refl w7.heap.size w7).alloc (Nat.le_refl _) (Obj.cells #[.int .i64 xc, .bool xl, .bool xw, .bool xr, .int .i64 xb, .int .i64 xn] 35)).cell (p := ⟨q, off + i, none⟩) (World.block_lt_of_cell? _ _ hcell7)).trans hcell7
        have hD := Blk.new w7 [.int .i64 xc, .bool xl, .bool xw, .bool xr, .int .i64 xb, .int .i64 xn] 35
        have hX8 := hX7.alloc (Obj.cells #[.int .i64 xc, .bool xl, .bool xw, .bool xr, .int .i64 xb, .int .i64 xn] 35)
        have HX8 := Lib.hid hX8; have HD := Lib.hid hD; have HV := Lib.hid hv
        clear hX7 hX8 hD hL7 hcell7 hv
        go_wp2_with fail
        clear hcell8
        obtain ⟨r, hr⟩ : ∃ r, r = w7.heap.size := ⟨_, rfl⟩
        rw [← hr] at HX8 HD ⊢
        clear hr
        obtain ⟨S1, hI, hl8, hnx, hgv⟩ := HX8.out.call
        by_cases hxc : xc = 2
        · subst hxc
          by_cases hcl : xl = false ∧ xw = false ∧ xr = false ∧ (2 = 4 → xn = n)
          · obtain ⟨rfl, rfl, rfl, hx4⟩ := hcl
            refine (Word_start (begS 2 n) g S1 _ m (startR (begS 2 n) xn) 2 xb xn false false false hml HV.out rfl rfl (fun S2 W2 h1 h2 => start_ready (begS 2 n) g S2 W2 2 xb xn (.inl ⟨rfl, rfl⟩) (fun h => by cases h) (by show (0 : Nat) ≤ 1000000; decide) h1 h2) (show (5 : Int) ≠ 0 by decide) hl8 hI).mono ?_
            rintro e w9 ⟨v, S2, rfl, hP, hG⟩
            obtain ⟨hX, hQ, hR⟩ := hgv hP hG
            have hX9 : Fx w1 w9 g (v.ownBlock.toList ++ [r]) (begR 2 n xn) := hX
            have hD9 := HD.out.same (hR r (by simp))
            have hQ9 : QRow w9 0 46 3 v 1 (evRow [⟨1, 0, 0⟩]) := hQ
            have HX9 := Lib.hid hX9; have HD9 := Lib.hid hD9; have HQ9 := Lib.hid hQ9
            clear hI hl8 hnx hgv hX hQ hR hP hG hX9 hD9 hQ9 HX8 HD HV hx4
            obtain ⟨h1, h2⟩ := hb
            have x0 := HD9.out.cell 0
            have x1 := HD9.out.cell 1
            have x2 := HD9.out.cell 2
            have x3 := HD9.out.cell 3
            have x4 := HD9.out.cell 4
            have x5 := HD9.out.cell 5
            simp only [List.getElem?_cons_zero, List.getElem?_cons_succ] at x0 x1 x2 x3 x4 x5
            go_wp2_with fail
            clear x0 x1 x2 x3 x4 x5
            obtain ⟨S1, hI, hl9, hnx, hgv⟩ := HX9.out.call
            refine (beg_send 2 n xn g S1 _ hI).mono ?_
            rintro e w10 ⟨rfl, hT⟩
            obtain ⟨hX, hR⟩ := hnx hT
            have HX10 := Lib.hid hX
            have HD10 := Lib.hid (HD9.out.same (hR r (by simp)))
            have HQ10 := Lib.hid (q_same HQ9.out (fun k hk => hR k (by simp [hk])))
            clear hI hl9 hnx hgv hX hR hT HX9 HD9 HQ9
            go_wp2_with fail
            obtain ⟨S1, hI, hl9, hnx, hgv⟩ := HX10.out.call
            refine (beg_next 2 n xn g S1 _ h1 h2 hl9 hI).mono ?_
            rintro e w11 ⟨rfl, hT⟩
            obtain ⟨hX, hR⟩ := hnx hT
            have hA11 : Below w11.heap.size w11 (w11.alloc (Obj.cells #[.int .i64 1, .int .i64 2, .bool false, .bool false, .int .i64 xn, .string ⟨#[97]⟩] 31)) := (Below.refl _ _).alloc (Nat.le_refl _) _
            have hD11 := (HD10.out.same (hR r (by simp))).below hA11 (HD10.out.same (hR r (by simp))).lt
            have hY11 := Blk.new w11 [.int .i64 1, .int .i64 2, .bool false, .bool false, .int .i64 xn, .string ⟨#[97]⟩] 31
            have HX11 := Lib.hid (hX.below hA11)
            have HQ11 := Lib.hid (q_below (q_same HQ10.out (fun k hk => hR k (by simp [hk]))) hA11 (Nat.le_refl _))
            have HD11 := Lib.hid hD11; have HY11 := Lib.hid hY11
            clear hI hl9 hnx hgv hX hR hT HX10 HD10 HQ10 hA11 hD11 hY11
            obtain ⟨y, hy⟩ : ∃ y, y = w11.heap.size := ⟨_, rfl⟩
            go_upto_region 25 with fail
            rw [← hy] at HY11 ⊢
            refine gen_world (fun W => Fx w1 W g (v.ownBlock.toList ++ [r]) (begN 2 n xn) ∧ Blk W r [.int .i64 2, .bool false, .bool false, .bool false, .int .i64 xb, .int .i64 xn] 35 ∧ Blk W y [.int .i64 1, .int .i64 2, .bool false, .bool false, .int .i64 xn, .string ⟨#[97]⟩] 31 ∧ QRow W 0 46 3 v 1 (evRow [⟨1, 0, 0⟩])) ⟨HX11.out, HD11.out, HY11.out, HQ11.out⟩ ?_
            clear HX11 HD11 HY11 HQ11 hy
            rintro w12 ⟨hX, hD, hY, hQ⟩
            obtain ⟨qv, ov, cv, hvv, -, hqvl, -, hclv, -⟩ := q_cells hQ (by decide)
            subst hvv
            have r0 := hclv 0 _ rfl; have r1 := hclv 1 _ rfl; have r2 := hclv 2 _ rfl
            simp only [Nat.add_zero] at r0
            have hA : Below w12.heap.size w12 (w12.alloc (Obj.cells #[.int .i64 1, .int .i64 0, .int .i64 0] 46)) := (Below.refl _ _).alloc (Nat.le_refl _) _
            have HE := Lib.hid (Blk.new w12 [.int .i64 1, .int .i64 0, .int .i64 0] 46)
            have HX12 := Lib.hid (hX.below hA)
            have HD12 := Lib.hid (hD.below hA hD.lt)
            have HY12 := Lib.hid (hY.below hA hY.lt)
            have HSM := Lib.hid (same_one 1 0 0 qv ov w12.heap.size 0 cv 1 _ ((hA.cell (p := ⟨qv, ov, none⟩) hqvl).trans r0) ((hA.cell (p := ⟨qv, ov + 1, none⟩) hqvl).trans r1) ((hA.cell (p := ⟨qv, ov + 2, none⟩) hqvl).trans r2) (HE.out.cell 0) (HE.out.cell 1) (HE.out.cell 2))
            clear hclv hQ hX hD hY hA
            go_wp2_with fail
            refine HSM.out.mono ?_
            rintro e w13 ⟨rfl, hL13⟩
            have HX13 := Lib.hid (HX12.out.below hL13)
            have HD13 := Lib.hid (HD12.out.below hL13 HD12.out.lt)
            have HY13 := Lib.hid (HY12.out.below hL13 HY12.out.lt)
            clear hL13 HSM HX12 HD12 HY12 HE r0 r1 r2
            have x0 := HD13.out.cell 0
            have x1 := HD13.out.cell 1
            have x2 := HD13.out.cell 2
            have x3 := HD13.out.cell 3
            have x4 := HD13.out.cell 4
            have x5 := HD13.out.cell 5
            simp only [List.getElem?_cons_zero, List.getElem?_cons_succ] at x0 x1 x2 x3 x4 x5
            have z0 := HY13.out.cell 0
            have z1 := HY13.out.cell 1
            have z2 := HY13.out.cell 2
            have z3 := HY13.out.cell 3
            have z4 := HY13.out.cell 4
            have z5 := HY13.out.cell 5
            simp only [List.getElem?_cons_zero, List.getElem?_cons_succ] at z0 z1 z2 z3 z4 z5
            go_wp2_with fail
            obtain ⟨S1, hI, -⟩ := HX13.out.call
            refine (Ready_in (begN 2 n xn) g S1 _ (show (5 : Int) ≠ 0 by decide) hI).mono ?_
            rintro e _ ⟨rfl, rfl⟩
            clear hI
            rw [show ((begN 2 n xn).service == 2) = true from rfl]
            go_wp2_with fail
            go_ret
            exact ⟨rfl, HL.out.trans (HX13.out.toBelow.mono HL.out.size)⟩
          · cases xl
            · cases xw
              · cases xr
                · exact absurd ⟨rfl, rfl, rfl, fun h => by cases h⟩ hcl
                · clear hcl
                  refine (Word_start (begS 2 n) g S1 _ m (begS 2 n) 2 xb xn false false true hml HV.out rfl rfl (fun S2 W2 h1 h2 => start_none (begS 2 n) g S2 W2 2 xb xn false false true (.inl ⟨rfl, rfl⟩) (fun h => by cases h.2.2.1) (fun h => by cases h.1) h1 h2) (show (5 : Int) ≠ 0 by decide) hl8 hI).mono ?_
                  rintro e w9 ⟨v, S2, rfl, hP, hG⟩
                  obtain ⟨hX, hQ, hR⟩ := hgv hP hG
                  have hX9 : Fx w1 w9 g (v.ownBlock.toList ++ [r]) (begS 2 n) := hX
                  have hQ9 : QRow w9 0 46 3 v 0 (evRow []) := hQ
                  have hD9 := HD.out.same (hR r (by simp))
                  obtain ⟨va, vc, hvv⟩ := qform hQ9
                  subst hvv
                  have HX9 := Lib.hid hX9; have HD9 := Lib.hid hD9
                  clear hI hl8 hnx hgv hX hQ hR hP hG hX9 hD9 HX8 HD HV hQ9
                  have x0 := HD9.out.cell 0
                  have x1 := HD9.out.cell 1
                  have x2 := HD9.out.cell 2
                  have x3 := HD9.out.cell 3
                  have x4 := HD9.out.cell 4
                  have x5 := HD9.out.cell 5
                  simp only [List.getElem?_cons_zero, List.getElem?_cons_succ] at x0 x1 x2 x3 x4 x5
                  go_wp2_with fail
                  obtain ⟨S1, hI, -⟩ := HX9.out.call
                  refine (Ready_in (begS 2 n) g S1 _ (show (5 : Int) ≠ 0 by decide) hI).mono ?_
                  rintro e _ ⟨rfl, rfl⟩
                  clear hI
                  rw [show ((begS 2 n).service == 2) = false from rfl]
                  go_wp2_with fail
                  go_roundw
                  case rel => exact ⟨i + 1, by omega, by go_num, HX9.out.sub (fun x hx => by cases hx)⟩
                  case measure => simp [intOf]; omega
              · clear hcl
                refine (Word_start (begS 2 n) g S1 _ m (begS 2 n) 2 xb xn false true xr hml HV.out rfl rfl (fun S2 W2 h1 h2 => start_none (begS 2 n) g S2 W2 2 xb xn false true xr (.inl ⟨rfl, rfl⟩) (fun h => by cases h.2.1) (fun h => by cases h.1) h1 h2) (show (5 : Int) ≠ 0 by decide) hl8 hI).mono ?_
                rintro e w9 ⟨v, S2, rfl, hP, hG⟩
                obtain ⟨hX, hQ, hR⟩ := hgv hP hG
                have hX9 : Fx w1 w9 g (v.ownBlock.toList ++ [r]) (begS 2 n) := hX
                have hQ9 : QRow w9 0 46 3 v 0 (evRow []) := hQ
                have hD9 := HD.out.same (hR r (by simp))
                obtain ⟨va, vc, hvv⟩ := qform hQ9
                subst hvv
                have HX9 := Lib.hid hX9; have HD9 := Lib.hid hD9
                clear hI hl8 hnx hgv hX hQ hR hP hG hX9 hD9 HX8 HD HV hQ9
                have x0 := HD9.out.cell 0
                have x1 := HD9.out.cell 1
                have x2 := HD9.out.cell 2
                have x3 := HD9.out.cell 3
                have x4 := HD9.out.cell 4
                have x5 := HD9.out.cell 5
                simp only [List.getElem?_cons_zero, List.getElem?_cons_succ] at x0 x1 x2 x3 x4 x5
                go_wp2_with fail
                obtain ⟨S1, hI, -⟩ := HX9.out.call
                refine (Ready_in (begS 2 n) g S1 _ (show (5 : Int) ≠ 0 by decide) hI).mono ?_
                rintro e _ ⟨rfl, rfl⟩
                clear hI
                rw [show ((begS 2 n).service == 2) = false from rfl]
                go_wp2_with fail
                go_roundw
                case rel => exact ⟨i + 1, by omega, by go_num, HX9.out.sub (fun x hx => by cases hx)⟩
                case measure => simp [intOf]; omega
            · clear hcl
              refine (Word_start (begS 2 n) g S1 _ m (alertF (begS 2 n) 2) 2 xb xn true xw xr hml HV.out rfl rfl (fun S2 W2 h1 h2 => start_lock (begS 2 n) g S2 W2 2 xb xn xw xr rfl (by show (0 : Nat) ≤ 1000000; decide) h1 h2) (show (5 : Int) ≠ 0 by decide) hl8 hI).mono ?_
              rintro e w9 ⟨v, S2, rfl, hP, hG⟩
              obtain ⟨hX, hQ, hR⟩ := hgv hP hG
              have hX9 : Fx w1 w9 g (v.ownBlock.toList ++ [r]) { alertF (begS 2 n) 2 with events := [] } := hX
              have hQ9 : QRow w9 0 46 3 v 1 (evRow [⟨3, 0, 2⟩]) := hQ
              have hD9 := HD.out.same (hR r (by simp))
              have HX9 := Lib.hid hX9; have HD9 := Lib.hid hD9; have HQ9 := Lib.hid hQ9
              clear hI hl8 hnx hgv hX hQ hR hP hG hX9 hD9 HX8 HD HV hQ9
              have x0 := HD9.out.cell 0
              have x1 := HD9.out.cell 1
              have x2 := HD9.out.cell 2
              have x3 := HD9.out.cell 3
              have x4 := HD9.out.cell 4
              have x5 := HD9.out.cell 5
              simp only [List.getElem?_cons_zero, List.getElem?_cons_succ] at x0 x1 x2 x3 x4 x5
              go_upto_region 27 with fail
              clear x0 x1 x2 x3 x4 x5
              obtain ⟨qv, ov, cv, hvv, -, hqvl, -, hclv, -⟩ := q_cells HQ9.out (by decide)
              subst hvv
              have r0 := hclv 0 _ rfl; have r1 := hclv 1 _ rfl; have r2 := hclv 2 _ rfl
              simp only [Nat.add_zero] at r0
              have hA : Below w9.heap.size w9 (w9.alloc (Obj.cells #[.int .i64 3, .int .i64 0, .int .i64 2] 46)) := (Below.refl _ _).alloc (Nat.le_refl _) _
              have HE := Lib.hid (Blk.new w9 [.int .i64 3, .int .i64 0, .int .i64 2] 46)
              have HX12 := Lib.hid (HX9.out.below hA)
              have HSM := Lib.hid (same_one 3 0 2 qv ov w9.heap.size 0 cv 1 _ ((hA.cell (p := ⟨qv, ov, none⟩) hqvl).trans r0) ((hA.cell (p := ⟨qv, ov + 1, none⟩) hqvl).trans r1) ((hA.cell (p := ⟨qv, ov + 2, none⟩) hqvl).trans r2) (HE.out.cell 0) (HE.out.cell 1) (HE.out.cell 2))
              clear hclv hA
              go_wp2_with fail
              refine HSM.out.mono ?_
              rintro e w13 ⟨rfl, hL13⟩
              have HX13 := Lib.hid (HX12.out.below hL13)
              clear hL13 HSM HX12 HE r0 r1 r2
              go_wp2_with fail
              obtain ⟨S1, hI, -⟩ := HX13.out.call
              refine (Ready_in { alertF (begS 2 n) 2 with events := [] } g S1 _ (show (5 : Int) ≠ 0 by decide) hI).mono ?_
              rintro e _ ⟨rfl, rfl⟩
              clear hI
              rw [show (({ alertF (begS 2 n) 2 with events := [] } : Fs).service == 2) = false from rfl]
              go_wp2_with fail
              go_ret
              exact ⟨rfl, HL.out.trans (HX13.out.toBelow.mono HL.out.size)⟩
        · have kx : (xc != 2) = true := by simpa using hxc
          refine (Word_other (begS 2 n) g S1 _ m xc xb xn xl xw xr hml HV.out hxc (show (5 : Int) ≠ 0 by decide) hI).mono ?_
          rintro e w9 ⟨rfl, hT⟩
          obtain ⟨hX, hR⟩ := hnx hT
          have HX9 := Lib.hid hX
          have HD9 := Lib.hid (HD.out.same (hR r (by simp)))
          clear hI hl8 hnx hgv hX hR hT HX8 HD HV hxc
          have x0 := HD9.out.cell 0
          have x1 := HD9.out.cell 1
          have x2 := HD9.out.cell 2
          have x3 := HD9.out.cell 3
          have x4 := HD9.out.cell 4
          have x5 := HD9.out.cell 5
          simp only [List.getElem?_cons_zero, List.getElem?_cons_succ] at x0 x1 x2 x3 x4 x5
          go_wp2_with fail
          go_roundw
          case rel => exact ⟨i + 1, by omega, by go_num, HX9.out.sub (fun x hx => by cases hx)⟩
          case measure => simp [intOf]; omega
      · have hv : readV m = .tuple #[Wd.zero.val, .int .i64 6] := by unfold readV; rw [if_neg hf]
        rw [hv]
        simp only [Wd.zero, Wd.val]
        have hcell8 := (((Below.refl w7.heap.size w7).alloc (Nat.le_refl _) (Obj.cells #[.int .i64 0, .bool false, .bool false, .bool false, .int .i64 0, .int .i64 0] 35)).cell (p := ⟨q, off + i, none⟩) (World.block_lt_of_cell? _ _ hcell7)).trans hcell7
        have HX8 := Lib.hid (hX7.below ((Below.refl _ _).alloc (Nat.le_refl _) (Obj.cells #[.int .i64 0, .bool false, .bool false, .bool false, .int .i64 0, .int .i64 0] 35)))
        have HV := Lib.hid hv
        clear hX7 hL7 hcell7 hv hf
        go_wp2_with fail
        clear hcell8
        obtain ⟨S1, hI, hl8, hnx, hgv⟩ := HX8.out.call
        refine (Word_form (begS 2 n) g S1 _ m hml HV.out (show (5 : Int) ≠ 0 by decide) hI).mono ?_
        rintro e w9 ⟨rfl, hT⟩
        obtain ⟨hX, hR⟩ := hnx hT
        have HX9 := Lib.hid hX
        clear hI hl8 hnx hgv hX hR hT HX8 HV
        go_wp2_with fail
        go_roundw
        case rel => exact ⟨i + 1, by omega, by go_num, HX9.out⟩
        case measure => simp [intOf]; omega
    · go_wp2_with fail
      go_ret
      exact ⟨rfl, HW.out⟩
end Go.Proofs.Ytbncejmohhejlaa