/- What is proved here: the walk of a step of the pair in which a frame or a control word arrives, time passes, or there is room again. -/
import Derived.Test.YtbncejmohhejlaaPw7
import Derived.Test.YtbncejmohhejlaaPw11
import Derived.Test.YtbncejmohhejlaaF7
import Derived.Test.YtbncejmohhejlaaFl2
import Derived.Test.YtbncejmohhejlaaO14
set_option linter.unusedVariables false
set_option linter.unusedSimpArgs false
namespace Go.Proofs.Ytbncejmohhejlaa
open Go.RowKit
section
set_option maxHeartbeats 1000000 in
set_option maxRecDepth 100000 in
theorem Free_any (f : Fm) (g : Nat) (w : World) (hh : f.half ≠ 0) (hB : Blk w g f.cells 112) : Calls Try.prog 28 #[.pointer (some ⟨g, 0, none⟩)] w fun e w' => e = .returned (.tuple #[]) ∧ Keep [g] w w' ∧ Blk w' g (Fm.mk f.craft f.half ⟨f.st.chan, f.st.lockout, false, f.st.retx, f.st.bypd, f.st.next⟩).cells 112 := by
  have HN := Lib.hid (none_any f g w false (by simpa using hh) hB)
  have HB := Lib.hid hB; clear hB
  have c0 := HB.out.cell 0
  have c1 := HB.out.cell 1
  have c2 := HB.out.cell 2
  have c3 := HB.out.cell 3
  have c4 := HB.out.cell 4
  have c5 := HB.out.cell 5
  have c6 := HB.out.cell 6
  have c7 := HB.out.cell 7
  simp only [Fm.cells, List.getElem?_cons_zero, List.getElem?_cons_succ] at c0 c1 c2 c3 c4 c5 c6 c7
  have f0 := HB.out.free 0
  have f1 := HB.out.free 1
  have f2 := HB.out.free 2
  have f3 := HB.out.free 3
  have f4 := HB.out.free 4
  have f5 := HB.out.free 5
  have f6 := HB.out.free 6
  have f7 := HB.out.free 7
  go_enter Try.func28, Try.ntmps28
  go_wp2_with fail
  refine (HN.out).mono ?_
  rintro e _ ⟨rfl, rfl⟩
  go_wp2_with fail
  go_end0
  exact ⟨rfl, (Keep.refl _ _).setCell (.inl (by simp)) _, HB.out.set 4 _⟩
section
variable {k n0 L : Nat} {tm : Int} {c : Nat} {p : Pr} {ups : List (Option Nat)} {dws : List Dw} {b : Nat} {w W : World} {P gf gg : Nat} {uv dv nv av : Value}
/-- The first frame arrives. -/
theorem arrive_one (hI : Inv k n0 L tm p ups dws b) (hu : p.units.length ≤ 1000000) (hul : ups.length ≤ 1000000) (x : Tc) (l : List Tc) (hx : p.up = x :: l) (room : Bool) (hP : PairAt w W P gf gg uv dv nv av p) :
    Calls Try.prog 32 #[.pointer (some ⟨P, 0, none⟩), .bool room] W fun e w' => e = .returned (.bool true) ∧ ∃ uv' av', PairAt w w' P gf gg uv' dv nv av' (arriveP p x l room) := by
  obtain ⟨h1, h2, h3, o, us, -, -⟩ := hI.arrive x l hx room
  have hl : p.up.length = ups.length := by rw [hI.hup, List.length_map]
  rw [hx, List.length_cons] at hl
  have := hI.Nb; have := hI.len
  exact arrive_some room hx (by omega) hu (by omega) hI.fok h1 h2 h3 hP
theorem arrive_inv (hI : Inv k n0 L tm p ups dws b) (x : Tc) (l : List Tc) (hx : p.up = x :: l) (room : Bool) : ∃ us, Inv k n0 L tm (arriveP p x l room) us dws b ∧ us.length + 1 = ups.length := by
  obtain ⟨h1, h2, h3, o, us, -, hJ⟩ := hI.arrive x l hx room
  refine ⟨us, hJ, ?_⟩
  have hl : p.up.length = ups.length := by rw [hI.hup, List.length_map]
  have hl2 : l.length = us.length := by have := congrArg List.length hJ.hup; rwa [List.length_map] at this
  rw [hx, List.length_cons] at hl
  omega
theorem arrive_fin (hI : Inv k n0 L tm p ups dws b) (hS : Sz c p ups dws) (hcc : c ≤ 3000) (room : Bool) (hP : PairAt w W P gf gg uv dv nv av p) :
    Calls Try.prog 32 #[.pointer (some ⟨P, 0, none⟩), .bool room] W fun e w' => Stepped k n0 L tm (c + 1) w P gf gg e w' := by
  have h1 := hS.un; have h2 := hS.ul; have h3 := hS.dl
  cases hx : p.up with
  | nil =>
    refine (arrive_none room hx hP).mono ?_
    rintro e w' ⟨rfl, rfl⟩
    exact ⟨rfl, _, _, _, _, _, hP, hI.fin (by omega) (by omega) (by omega)⟩
  | cons x l =>
    refine (arrive_one hI (by omega) (by omega) x l hx room hP).mono ?_
    rintro e w' ⟨rfl, uv', av', hP'⟩
    obtain ⟨us, hJ, hl⟩ := arrive_inv hI x l hx room
    exact ⟨rfl, _, _, _, _, _, hP', hJ.fin (by show p.units.length ≤ _; omega) (by omega) (by omega)⟩
theorem hear_fin (hI : Inv k n0 L tm p ups dws b) (hS : Sz c p ups dws) (hcc : c ≤ 3000) (hP : PairAt w W P gf gg uv dv nv av p) :
    Calls Try.prog 30 #[.pointer (some ⟨P, 0, none⟩)] W fun e w' => Stepped k n0 L tm (c + 1) w P gf gg e w' := by
  have h1 := hS.un; have h2 := hS.ul; have h3 := hS.dl
  cases hd : dws with
  | nil =>
    refine (hear_none (by rw [hI.hdown, hd]; rfl) hP).mono ?_
    rintro e w' ⟨rfl, rfl⟩
    exact ⟨rfl, _, _, _, _, _, hP, hI.fin (by omega) (by omega) (by omega)⟩
  | cons x ds =>
    subst hd
    rw [List.length_cons] at h3
    refine (hear_some hI (by omega) (by omega) hP).mono ?_
    rintro e w' ⟨rfl, dv', hP'⟩
    obtain ⟨-, -, -, -, -, hJ⟩ := hI.hear x ds rfl
    exact ⟨rfl, _, _, _, _, _, hP', hJ.fin (by show p.units.length ≤ _; omega) (by omega) (by omega)⟩
theorem Inv.au (h : Inv k n0 L tm p ups dws b) : p.acc.length ≤ p.units.length := by have := h.Nb; have := h.len; omega
/-- Time passes. -/
theorem tick_calls (hI : Inv k n0 L tm p ups dws b) (by_ : Int) (h0 : 0 ≤ by_) (h1 : by_ ≤ 1073741824) (S1 : List Nat) (W1 : World) (h : FopIn W1 gf S1 p.s) :
    Calls Try.prog 18 #[.pointer (some ⟨gf, 0, none⟩), .int .i64 by_] W1 fun e w' => ∃ v S', e = .returned (.tuple #[v, .int .i64 0]) ∧ Pt W1 w' gf S1 S' (tickF p.s by_).1 ∧ Given W1 w' S1 S' (tickF p.s by_).2 v := by
  have h2 := hI.clock; have h3 := hI.htm; have h4 := hI.tries; have h5 := hI.hL
  exact Tick_all p.s by_ gf S1 W1 hI.fine (.inr (.inr hI.serv)) h0 h1 (by omega) (by omega) (by omega) (by omega) h
theorem Inv.dead (hI : Inv k n0 L tm p ups dws b) (s : Fs) : Fin k n0 L tm c { { p with s := s } with acked := p.acked, alert := 1 } := by
  have h1 := hI.fhalf; have h2 := hI.hk
  exact .inr ⟨rfl, hI.flock, by show p.f.half ≠ 0; omega, by show p.acked ≤ p.acc.length; rw [hI.acked]; exact hI.bN, hI.au⟩
set_option maxHeartbeats 8000000 in
set_option maxRecDepth 100000 in
theorem act_in7 (hI : Inv k n0 L tm p ups dws b) (hS : Sz c p ups dws) (hcc : c ≤ 3000) (n : Int) (m : Nat) (hn : I64 n) (hm : (m : Int) = n % 640) (hc : m % 16 = 7) (hP : PairAt w W P gf gg uv dv nv av p) :
    Calls Try.prog 26 #[.pointer (some ⟨P, 0, none⟩), .int .i64 n] W fun e w' => Stepped k n0 L tm (c + 1) w P gf gg e w' := by
  have HC := Lib.hid (arrive_fin hI hS hcc true hP)
  have HK := Lib.hid (fun W => pick_any n 640 W (by omega) (by omega) hn.1 hn.2)
  rw [← hm] at HK
  have hc2 : ((m : Int) % 16) = 7 := by omega
  clear hI hS hP hm hn
  go_enter Try.func26, Try.ntmps26
  go_wp2_with fail
  refine (HK.out _).mono ?_
  rintro e _ ⟨rfl, rfl⟩
  clear HK
  go_wp2_with fail
  refine HC.out.mono ?_
  rintro e W2 ⟨rfl, hh⟩
  have HH := Lib.hid hh; clear hh HC
  go_wp2_with fail
  go_ret
  exact ⟨rfl, HH.out⟩
set_option maxHeartbeats 8000000 in
set_option maxRecDepth 100000 in
theorem act_in8 (hI : Inv k n0 L tm p ups dws b) (hS : Sz c p ups dws) (hcc : c ≤ 3000) (n : Int) (m : Nat) (hn : I64 n) (hm : (m : Int) = n % 640) (hc : m % 16 = 8) (hP : PairAt w W P gf gg uv dv nv av p) :
    Calls Try.prog 26 #[.pointer (some ⟨P, 0, none⟩), .int .i64 n] W fun e w' => Stepped k n0 L tm (c + 1) w P gf gg e w' := by
  have HC := Lib.hid (arrive_fin hI hS hcc false hP)
  have HK := Lib.hid (fun W => pick_any n 640 W (by omega) (by omega) hn.1 hn.2)
  rw [← hm] at HK
  have hc2 : ((m : Int) % 16) = 8 := by omega
  clear hI hS hP hm hn
  go_enter Try.func26, Try.ntmps26
  go_wp2_with fail
  refine (HK.out _).mono ?_
  rintro e _ ⟨rfl, rfl⟩
  clear HK
  go_wp2_with fail
  refine HC.out.mono ?_
  rintro e W2 ⟨rfl, hh⟩
  have HH := Lib.hid hh; clear hh HC
  go_wp2_with fail
  go_ret
  exact ⟨rfl, HH.out⟩
set_option maxHeartbeats 8000000 in
set_option maxRecDepth 100000 in
theorem act_in12 (hI : Inv k n0 L tm p ups dws b) (hS : Sz c p ups dws) (hcc : c ≤ 3000) (n : Int) (m : Nat) (hn : I64 n) (hm : (m : Int) = n % 640) (hc : m % 16 = 12) (hP : PairAt w W P gf gg uv dv nv av p) :
    Calls Try.prog 26 #[.pointer (some ⟨P, 0, none⟩), .int .i64 n] W fun e w' => Stepped k n0 L tm (c + 1) w P gf gg e w' := by
  have HC := Lib.hid (hear_fin hI hS hcc hP)
  have HK := Lib.hid (fun W => pick_any n 640 W (by omega) (by omega) hn.1 hn.2)
  rw [← hm] at HK
  have hc2 : ((m : Int) % 16) = 12 := by omega
  clear hI hS hP hm hn
  go_enter Try.func26, Try.ntmps26
  go_wp2_with fail
  refine (HK.out _).mono ?_
  rintro e _ ⟨rfl, rfl⟩
  clear HK
  go_wp2_with fail
  refine HC.out.mono ?_
  rintro e W2 ⟨rfl, hh⟩
  have HH := Lib.hid hh; clear hh HC
  go_wp2_with fail
  go_ret
  exact ⟨rfl, HH.out⟩
set_option maxHeartbeats 8000000 in
set_option maxRecDepth 100000 in
theorem act_in13 (hI : Inv k n0 L tm p ups dws b) (hS : Sz c p ups dws) (hcc : c ≤ 3000) (n : Int) (m : Nat) (hn : I64 n) (hm : (m : Int) = n % 640) (hc : m % 16 = 13) (hP : PairAt w W P gf gg uv dv nv av p) :
    Calls Try.prog 26 #[.pointer (some ⟨P, 0, none⟩), .int .i64 n] W fun e w' => Stepped k n0 L tm (c + 1) w P gf gg e w' := by
  have HC := Lib.hid (hear_fin hI hS hcc hP)
  have HK := Lib.hid (fun W => pick_any n 640 W (by omega) (by omega) hn.1 hn.2)
  rw [← hm] at HK
  have hc2 : ((m : Int) % 16) = 13 := by omega
  clear hI hS hP hm hn
  go_enter Try.func26, Try.ntmps26
  go_wp2_with fail
  refine (HK.out _).mono ?_
  rintro e _ ⟨rfl, rfl⟩
  clear HK
  go_wp2_with fail
  refine HC.out.mono ?_
  rintro e W2 ⟨rfl, hh⟩
  have HH := Lib.hid hh; clear hh HC
  go_wp2_with fail
  go_ret
  exact ⟨rfl, HH.out⟩
set_option maxHeartbeats 8000000 in
set_option maxRecDepth 100000 in
theorem act_tick (hI : Inv k n0 L tm p ups dws b) (hS : Sz c p ups dws) (hcc : c ≤ 3000) (n : Int) (m : Nat) (hn : I64 n) (hm : (m : Int) = n % 640) (hc : m % 16 = 14) (hP : PairAt w W P gf gg uv dv nv av p) :
    Calls Try.prog 26 #[.pointer (some ⟨P, 0, none⟩), .int .i64 n] W fun e w' => Stepped k n0 L tm (c + 1) w P gf gg e w' := by
  have h1 := hS.un; have h2 := hS.ul; have h3 := hS.dl
  have hmb : m < 640 := by omega
  have HT := Lib.hid (fun S1 (W1 : World) h => tick_calls (gf := gf) hI ((m : Int) / 16) (by omega) (by omega) S1 W1 h)
  have htk := hI.tick ((m : Int) / 16) (by omega)
  have hdd := hI.dead (c := c + 1) (tickF p.s ((m : Int) / 16)).1
  have hau : p.acc.length ≤ 3000 := by have := hI.au; omega
  have hbk : p.acked = b := hI.acked
  have hbN : b ≤ p.acc.length := hI.bN
  have hfi : ∀ s', Inv k n0 L tm { p with s := s' } ups dws b → Fin k n0 L tm (c + 1) { { p with s := s' } with acked := b + 0, alert := p.alert } := fun s' hJ => by
    have hJ2 : Inv k n0 L tm { { p with s := s' } with acked := b + 0, alert := p.alert } ups dws b := { hJ with acked := rfl }
    exact hJ2.fin (by show p.units.length ≤ _; omega) (by omega) (by omega)
  have HFI := Lib.hid hfi
  have HDD := Lib.hid hdd
  have HTK := Lib.hid htk
  have HP := Lib.hid hP
  have HK := Lib.hid (fun W => pick_any n 640 W (by omega) (by omega) hn.1 hn.2)
  rw [← hm] at HK
  have c0 := hP.blk.cell 0
  simp only [pairCells, List.getElem?_cons_zero, List.getElem?_cons_succ] at c0
  have hc2 : ((m : Int) % 16) = 14 := by omega
  have hwk : IntKind.i64.wrap ((m : Int) / 16) = (m : Int) / 16 := IntWalk.i64_in _ (by omega)
  clear hI hS hP hm hn h1 h2 h3 htk hdd hfi
  go_enter Try.func26, Try.ntmps26
  go_wp2_with fail
  refine (HK.out _).mono ?_
  rintro e _ ⟨rfl, rfl⟩
  clear HK
  go_wp2_with fail
  obtain ⟨S1, hI, hlt, hgv⟩ := HP.out.fop.callG
  refine (HT.out S1 _ hI).mono ?_
  obtain ⟨X, hX⟩ : ∃ X, X = tickF p.s ((m : Int) / 16) := ⟨_, rfl⟩
  rw [← hX] at HDD HTK ⊢
  rintro e W2 ⟨v, S2, rfl, hP, hG⟩
  obtain ⟨hX, hQ, hR, hF⟩ := hgv hP hG
  have hP2 : PairAt w W2 P gf gg uv dv nv av { p with s := X.1 } := HP.out.call hX hR
  have hFP : v.ownBlock ≠ some P := hF P (in_blocks (v := bv P) (by simp) rfl)
  obtain ⟨aa, ac, hav⟩ := qform hP2.acc
  subst hav
  have HQ := Lib.hid hQ; have HP2 := Lib.hid hP2; have HFP := Lib.hid hFP
  clear hI hlt hgv hP hG hX hQ hR hF hP2 hFP HP c0 hwk HT
  obtain ⟨s', l⟩ := X
  simp only at HDD HTK HQ HP2
  go_wp2_with fail
  rcases HTK.out with ⟨hl, hJ⟩ | hl
  · change l = _ at hl
    subst hl
    have HJ := Lib.hid (HFI.out _ hJ)
    clear hJ HTK HDD HFI
    refine (events_acks P gf gg uv dv nv aa ac { p with s := s' } b 0 v W2 hbk (by show b + 0 ≤ p.acc.length; omega) (by show p.acc.length ≤ 1000000; omega) HP2.out.blk HQ.out HFP.out).mono ?_
    rintro e W3 ⟨rfl, hK, hB⟩
    have HP3 := Lib.hid (HP2.out.nums (a := b + 0) (l := p.alert) hK hB)
    clear hK hB HP2 HQ HFP
    go_wp2_with fail
    go_ret
    exact ⟨rfl, _, _, _, _, _, HP3.out, HJ.out⟩
  · change l = _ at hl
    subst hl
    clear HTK HFI
    refine (events_alert P gf gg uv dv nv (.slice aa p.acc.length ac) { p with s := s' } v W2 HP2.out.blk HQ.out HFP.out).mono ?_
    rintro e W3 ⟨rfl, hK, hB⟩
    have HP3 := Lib.hid (HP2.out.nums (a := p.acked) (l := 1) hK hB)
    clear hK hB HP2 HQ HFP
    go_wp2_with fail
    go_ret
    exact ⟨rfl, _, _, _, _, _, HP3.out, HDD.out⟩
set_option maxHeartbeats 8000000 in
set_option maxRecDepth 100000 in
theorem act_free (hI : Inv k n0 L tm p ups dws b) (hS : Sz c p ups dws) (n : Int) (m : Nat) (hn : I64 n) (hm : (m : Int) = n % 640) (hc : m % 16 = 15) (hP : PairAt w W P gf gg uv dv nv av p) :
    Calls Try.prog 26 #[.pointer (some ⟨P, 0, none⟩), .int .i64 n] W fun e w' => Stepped k n0 L tm (c + 1) w P gf gg e w' := by
  have h1 := hS.un; have h2 := hS.ul; have h3 := hS.dl
  have HF := Lib.hid (hI.free.fin (c := c + 1) (by show p.units.length ≤ _; omega) (by omega) (by omega))
  have hh : p.f.half ≠ 0 := by have := hI.fhalf; have := hI.hk; omega
  have HR := Lib.hid (Free_any p.f gg W hh hP.farm)
  have HP := Lib.hid hP
  have HK := Lib.hid (fun W => pick_any n 640 W (by omega) (by omega) hn.1 hn.2)
  rw [← hm] at HK
  have c1 := hP.blk.cell 1
  simp only [pairCells, List.getElem?_cons_zero, List.getElem?_cons_succ] at c1
  have hc2 : ((m : Int) % 16) = 15 := by omega
  clear hI hS hP hm hn h1 h2 h3 hh
  go_enter Try.func26, Try.ntmps26
  go_wp2_with fail
  refine (HK.out _).mono ?_
  rintro e _ ⟨rfl, rfl⟩
  clear HK
  go_wp2_with fail
  refine HR.out.mono ?_
  rintro e W2 ⟨rfl, hK, hB⟩
  have HP2 := Lib.hid (HP.out.board hK hB)
  clear hK hB HP HR c1
  go_wp2_with fail
  go_ret
  exact ⟨rfl, _, _, _, _, _, HP2.out, HF.out⟩
end
end
section
theorem u8_int (a : Int) (h0 : 0 ≤ a) (h1 : a ≤ 255) : a = ((UInt8.ofNat a.toNat).toNat : Int) := by rw [UInt8.toNat_ofNat']; omega
theorem bytes1_string (W : World) (a : Int) (h0 : 0 ≤ a) (h1 : a ≤ 255) :
    (convert 51 9 (.slice (some ⟨W.heap.size, 0, none⟩) 1 1)).run Try.prog (W.alloc (.cells #[.int .u8 a] 5)) = .ok (.string ⟨#[UInt8.ofNat a.toNat]⟩) (W.alloc (.cells #[.int .u8 a] 5)) := by
  refine run_string (base := W.heap.size) (xs := [UInt8.ofNat a.toNat]) (.inr ⟨W.heap.size, 1, _, _, rfl, Nat.le_refl _, heap_alloc_new W _, .inl rfl, Nat.le_refl _, by decide, rfl, ?_⟩)
  simp [vb]; omega
theorem take_set (half s : Int) (h1 : 1 ≤ half) (h2 : half ≤ 127) (h3 : 0 ≤ s) (h4 : s ≤ 255) :
    takeF (Fm.start 1 half 2) ⟨1, 2, true, true, 0, ⟨#[130, 0, UInt8.ofNat s.toNat]⟩⟩ true = (⟨1, half, ⟨2, false, false, false, 1, s⟩⟩, false, 0) := by
  have e : ((UInt8.ofNat s.toNat).toNat : Int) = s := (u8_int s h3 h4).symm
  have hg : (Tc.mk 1 2 true true 0 ⟨#[130, 0, UInt8.ofNat s.toNat]⟩).good = true := by
    rw [Tc.good_iff]
    refine ⟨?_, rfl⟩
    show (0 : Int) ≤ 1 ∧ (1 : Int) ≤ 255 ∧ (0 : Int) ≤ 0 ∧ (0 : Int) ≤ 255 ∧ (0 : Int) ≤ 2 ∧ (2 : Int) ≤ 7 ∧ 1 ≤ 3 ∧ 3 ≤ 200
    omega
  have hc : (Tc.mk 1 2 true true 0 ⟨#[130, 0, UInt8.ofNat s.toNat]⟩).ctl3 = (false, s, true) := by
    unfold Tc.ctl3
    rw [hg]
    show (if true && true then dataV [130, 0, UInt8.ofNat s.toNat] else (false, 0, false)) = _
    simp only [Bool.and_self, if_true, dataV, and_self]
    rw [e]
  unfold takeF
  rw [hg]
  simp [bypassF, hc, Fm.start]
theorem set_any (half s : Int) (g : Nat) (W : World) (h1 : 1 ≤ half) (h2 : half ≤ 127) (h3 : 0 ≤ s) (h4 : s ≤ 255) (hB : Blk W g (Fm.start 1 half 2).cells 112) :
    Calls Try.prog 53 #[.pointer (some ⟨g, 0, none⟩), .agg #[.int .i64 1, .int .i64 2, .bool true, .bool true, .int .i64 0, .string (⟨#[130, 0]⟩ ++ ⟨#[UInt8.ofNat s.toNat]⟩)], .bool true] W fun e w' =>
      e = .returned (.tuple #[.bool false, .int .i64 0]) ∧ Keep [g] W w' ∧ Blk w' g (Fm.mk 1 half ⟨2, false, false, false, 1, s⟩).cells 112 := by
  have e : (⟨#[130, 0]⟩ ++ ⟨#[UInt8.ofNat s.toNat]⟩ : ByteArray) = ⟨#[130, 0, UInt8.ofNat s.toNat]⟩ := by apply ByteArray.ext; rfl
  rw [e]
  have := Take_any (Fm.start 1 half 2) ⟨1, 2, true, true, 0, ⟨#[130, 0, UInt8.ofNat s.toNat]⟩⟩ true g W ⟨h1, h2, by simp [Fm.start], by simp [Fm.start], by simp [Fm.start], by simp [Fm.start]⟩ hB
  rw [take_set half s h1 h2 h3 h4] at this
  exact this
theorem wd_field1' (a e f : Int) (b c d : Bool) (w : World) : (Instr.field 35 (.agg #[.int .i64 a, .bool b, .bool c, .bool d, .int .i64 e, .int .i64 f]) 1).run Try.prog w = .ok (.bool b) w := by kernel_rfl
section
variable {k n0 L : Nat} {tm : Int} {c : Nat} {p : Pr} {ups : List (Option Nat)} {dws : List Dw} {b : Nat} {w W : World} {P gf gg : Nat} {uv dv nv av : Value}
theorem act_any (hI : Inv k n0 L tm p ups dws b) (hS : Sz c p ups dws) (hcc : c ≤ 3000) (n : Int) (hn : I64 n) (hP : PairAt w W P gf gg uv dv nv av p) :
    Calls Try.prog 26 #[.pointer (some ⟨P, 0, none⟩), .int .i64 n] W fun e w' => Stepped k n0 L tm (c + 1) w P gf gg e w' := by
  obtain ⟨m, hm⟩ : ∃ m : Nat, (m : Int) = n % 640 := ⟨(n % 640).toNat, by omega⟩
  have hmm : m % 16 = 0 ∨ m % 16 = 1 ∨ m % 16 = 2 ∨ m % 16 = 3 ∨ m % 16 = 4 ∨ m % 16 = 5 ∨ m % 16 = 6 ∨ m % 16 = 7 ∨ m % 16 = 8 ∨ m % 16 = 9 ∨ m % 16 = 10 ∨ m % 16 = 11 ∨ m % 16 = 12 ∨ m % 16 = 13 ∨ m % 16 = 14 ∨ m % 16 = 15 := by omega
  rcases hmm with hc | hc | hc | hc | hc | hc | hc | hc | hc | hc | hc | hc | hc | hc | hc | hc
  · exact act_send0 hI hS hcc n m hn hm hc hP
  · exact act_send1 hI hS hcc n m hn hm hc hP
  · exact act_byp hI hS n m hn hm hc hP
  · exact act_next3 hI hS hcc n m hn hm hc hP
  · exact act_next4 hI hS hcc n m hn hm hc hP
  · exact act_next5 hI hS hcc n m hn hm hc hP
  · exact act_next6 hI hS hcc n m hn hm hc hP
  · exact act_in7 hI hS hcc n m hn hm hc hP
  · exact act_in8 hI hS hcc n m hn hm hc hP
  · exact act_word9 hI hS hcc n m hn hm hc hP
  · exact act_idle hI hS n m hn hm hc hP
  · exact act_word11 hI hS hcc n m hn hm hc hP
  · exact act_in12 hI hS hcc n m hn hm hc hP
  · exact act_in13 hI hS hcc n m hn hm hc hP
  · exact act_tick hI hS hcc n m hn hm hc hP
  · exact act_free hI hS n m hn hm hc hP
end
def pair0 (k N : Nat) (tm : Int) (n0 : Nat) : Pr := ⟨limB k N tm n0, ⟨1, k, ⟨2, false, false, false, 1, n0⟩⟩, [], [], [], [], 0, 0⟩
theorem start_inv (k N : Nat) (tm : Int) (n0 : Nat) (hk : 1 ≤ k ∧ k ≤ 127) (hN : 1 ≤ N ∧ N ≤ 100) (ht : 1 ≤ tm ∧ tm ≤ 1073741824) (hn : n0 ≤ 255) : Inv k n0 N tm (pair0 k N tm n0) [] [] 0 := by
  refine { hk := hk, hL := hN, htm := ht, serv := rfl, susp := rfl, due := rfl, win := rfl, craft := rfl, chan := rfl, limit := rfl, timeout := rfl, ev := rfl, last := rfl, clock := ⟨ht.1, Int.le_refl _⟩, tries := ?_, base := ?_, rest := rfl, bu := Nat.zero_le _, sl := Nat.zero_le _, wl := Nat.zero_le _, wm := (fun u hu => by cases hu), byp := (fun d hd => by cases hd), bl := Nat.zero_le _, fcraft := rfl, fhalf := rfl, fchan := rfl, flock := rfl, fbyp := ⟨by show (0 : Int) ≤ 1; decide, by show (1 : Int) ≤ 3; decide⟩, fnext := ?_, hacc := rfl, bN := Nat.zero_le _, Nb := Nat.zero_le _, acked := rfl, hup := rfl, u1 := (fun i hi => by cases hi), u2 := (fun i hi => by cases hi), u3 := List.Pairwise.nil, hdown := rfl, d1 := (fun x hx => by cases hx), d2 := List.Pairwise.nil, uz := (fun d hd => by cases hd), al := rfl }
  · show (1 : Int) ≤ 1 ∧ (1 : Int) ≤ (N : Int); omega
  · show (n0 : Int) = ((n0 + 0 : Nat) : Int) % 256; omega
  · show (n0 : Int) = ((n0 + 0 : Nat) : Int) % 256; omega
set_option maxHeartbeats 8000000 in
set_option maxRecDepth 100000 in
theorem begin_any (a b c tm : Int) (w : World) (ha : I64 a) (hb : I64 b) (hc : I64 c) (ht1 : 1 ≤ tm) (ht2 : tm ≤ 1073741824) :
    Calls Try.prog 25 #[.int .i64 a, .int .i64 b, .int .i64 c, .int .i64 tm] w fun e w' => ∃ P gf gg, e = .returned (.tuple #[.pointer (some ⟨P, 0, none⟩), .bool true]) ∧
      PairAt w w' P gf gg (.slice none 0 0) (.slice none 0 0) (.slice none 0 0) (.slice none 0 0) (pair0 (1 + a % 127).toNat (1 + b % 100).toNat tm (c % 256).toNat) := by
  have PA := Lib.hid (fun W => pick_any a 127 W (by omega) (by omega) ha.1 ha.2)
  have PB := Lib.hid (fun W => pick_any b 100 W (by omega) (by omega) hb.1 hb.2)
  have PC := Lib.hid (fun W => pick_any c 256 W (by omega) (by omega) hc.1 hc.2)
  obtain ⟨k, hk⟩ : ∃ k : Nat, (k : Int) = 1 + a % 127 := ⟨(1 + a % 127).toNat, by omega⟩
  obtain ⟨N, hN⟩ : ∃ N : Nat, (N : Int) = 1 + b % 100 := ⟨(1 + b % 100).toNat, by omega⟩
  obtain ⟨s, hs⟩ : ∃ s : Nat, (s : Int) = c % 256 := ⟨(c % 256).toNat, by omega⟩
  have hwa : IntKind.i64.wrap (1 + a % 127) = (k : Int) := by rw [hk]; exact IntWalk.i64_in _ (by omega)
  have hwb : IntKind.i64.wrap (1 + b % 100) = (N : Int) := by rw [hN]; exact IntWalk.i64_in _ (by omega)
  have hwk : IntKind.i64.wrap (2 * (k : Int)) = 2 * (k : Int) := IntWalk.i64_in _ (by omega)
  have hws : IntKind.u8.wrap (s : Int) = (s : Int) := by rw [IntKind.wrap_u8']; omega
  rw [show (1 + a % 127).toNat = k by omega, show (1 + b % 100).toNat = N by omega, show (c % 256).toNat = s by omega]
  rw [← hs] at PC
  have hk1 : 1 ≤ (k : Int) := by omega
  have hk2 : (k : Int) ≤ 127 := by omega
  have hN1 : 1 ≤ (N : Int) := by omega
  have hN2 : (N : Int) ≤ 100 := by omega
  have hs1 : (s : Int) ≤ 255 := by omega
  clear ha hb hc hk hN hs
  go_enter Try.func25, Try.ntmps25
  go_wp2_with fail
  refine (PA.out _).mono ?_
  rintro e _ ⟨rfl, rfl⟩
  go_wp2_with fail
  refine (PB.out _).mono ?_
  rintro e _ ⟨rfl, rfl⟩
  clear PA PB
  go_wp2_with fail
  refine (foNew_ok 1 2 k N tm _ (by omega) (by omega) (by omega) (by omega) hk1 hk2 hN1 hN2 ht1 ht2).mono ?_
  rintro e w1 ⟨rfl, hL, hI⟩
  obtain ⟨gf, hgf⟩ : ∃ g, g = w.heap.size := ⟨_, rfl⟩
  rw [← hgf] at hI ⊢
  have HX := Lib.hid (show Fx w w1 gf [] (newF 1 2 k N tm) from Fx.start hgf hL hI)
  clear hL hI hgf hwa hwb
  go_wp2_with fail
  refine (New_ok 1 2 k _ (by omega) (by omega) (by omega) (by omega) hk1 hk2).mono ?_
  rintro e w2 ⟨rfl, hL, hB⟩
  obtain ⟨gg, hgg⟩ : ∃ g, g = w1.heap.size := ⟨_, rfl⟩
  rw [← hgg] at hB ⊢
  replace HX := Lib.hid (HX.out.add hL (Nat.le_of_eq hgg.symm) hB.lt)
  have HB := Lib.hid hB
  clear hL hB hgg hwk
  go_wp2_with fail
  refine (PC.out _).mono ?_
  rintro e _ ⟨rfl, rfl⟩
  clear PC
  have hbs := bytes1_string w2 (s : Int) (by omega) hs1
  go_wp2_with fail
  replace HX := Lib.hid (HX.out.below ((Below.refl _ _).alloc (Nat.le_refl _) (Obj.cells #[.int .u8 (s : Int)] 5)))
  replace HB := Lib.hid (HB.out.alloc (Obj.cells #[.int .u8 (s : Int)] 5))
  clear hbs hws
  refine (set_any k s gg _ hk1 hk2 (by omega) hs1 HB.out).mono ?_
  rintro e w3 ⟨rfl, hK, hB⟩
  replace HX := Lib.hid (HX.out.far hK (fun i hi => .inl hi))
  have HB := Lib.hid hB
  clear hK hB
  have hX4 := HX.out.alloc (.cells #[.pointer (some ⟨gf, 0, none⟩), .pointer (some ⟨gg, 0, none⟩), .slice none 0 0, .slice none 0 0, .slice none 0 0, .slice none 0 0, .int .i64 0, .int .i64 0] 78)
  have hB4 := HB.out.alloc (.cells #[.pointer (some ⟨gf, 0, none⟩), .pointer (some ⟨gg, 0, none⟩), .slice none 0 0, .slice none 0 0, .slice none 0 0, .slice none 0 0, .int .i64 0, .int .i64 0] 78)
  have hP4 := Blk.new w3 [.pointer (some ⟨gf, 0, none⟩), .pointer (some ⟨gg, 0, none⟩), .slice none 0 0, .slice none 0 0, .slice none 0 0, .slice none 0 0, .int .i64 0, .int .i64 0] 78
  obtain ⟨P, hPe⟩ : ∃ P, P = w3.heap.size := ⟨_, rfl⟩
  have hne : P ≠ gg := by have := HB.out.lt; omega
  rw [← hPe] at hX4 hP4
  have hPA : PairAt w (w3.alloc (.cells #[.pointer (some ⟨gf, 0, none⟩), .pointer (some ⟨gg, 0, none⟩), .slice none 0 0, .slice none 0 0, .slice none 0 0, .slice none 0 0, .int .i64 0, .int .i64 0] 78)) P gf gg (.slice none 0 0) (.slice none 0 0) (.slice none 0 0) (.slice none 0 0) { pair0 k N tm s with s := newF 1 2 k N tm } :=
    ⟨hP4, hX4, hB4, q_nil _ _ _ _, q_nil _ _ _ _, q_nil _ _ _ _, q_nil _ _ _ _, by
      have hn : ∀ v : Value, Far v (.slice none 0 0) := fun v k _ h => by cases h
      have hpg : Far (bv P) (bv gg) := fun k h1 h2 => by
        have e1 : some P = some k := h1
        have e2 : some gg = some k := h2
        rw [← e2] at e1; injection e1 with e1; exact hne e1
      simp only [List.pairwise_cons, List.mem_cons, List.not_mem_nil, or_false]
      refine ⟨?_, ?_, ?_, ?_, ?_, ?_, List.Pairwise.nil⟩ <;> (intro v hv; first | (rcases hv with rfl | rfl | rfl | rfl | rfl) | (rcases hv with rfl | rfl | rfl | rfl) | (rcases hv with rfl | rfl | rfl) | (rcases hv with rfl | rfl) | (subst hv) | (cases hv)) <;> first | exact hpg | exact hn _⟩
  have HPA := Lib.hid hPA
  clear hX4 hB4 hP4 hPA HX HB hne
  go_wp2_with fail
  rw [← hPe]
  obtain ⟨S1, hI, hlt, hnx, hgv⟩ := HPA.out.fop.call
  refine (Begin_ok 1 s (newF 1 2 k N tm) gf S1 _ (by omega) (by omega) (by omega) hs1 rfl (show (k : Int) ≠ 0 by omega) hI).mono ?_
  rintro e w4 ⟨rfl, hT⟩
  obtain ⟨hX, hR⟩ := hnx hT
  have HP2 := Lib.hid (HPA.out.call hX hR)
  clear hI hlt hnx hgv hX hR hT HPA
  go_wp2_with fail
  go_ret2
  refine ⟨P, gf, gg, ?_, HP2.out⟩
  rw [hPe]; rfl
end
section
open Go.ChangeShapes Go.WideShapes Go.ChangeAt Go.RowKit Go.Deep
section
variable {H : Type} {enc : TypeId × Value → H} {w : World} {base : Nat} {spare : Nat → Bool} {held : Bool}
theorem op15_open {fuel : Nat} {cs : List Value} {x : DataW H × List MemPlace} (h : DataW.trod enc Try.prog w base spare held fuel 56 cs = some x) : ∃ (a b c : Int) (d : ByteArray) (u : Int), cs = [.int .i64 a, .int .i64 b, .int .i64 c, .string d, .int .u32 u] := by
  obtain ⟨hl, hf⟩ := trod_cells Try.underlying56 (by kernel_rfl) (by kernel_rfl) h
  obtain ⟨v0, y0, n0, e0, t0⟩ := hf 0 _ rfl
  obtain ⟨v1, y1, n1, e1, t1⟩ := hf 1 _ rfl
  obtain ⟨v2, y2, n2, e2, t2⟩ := hf 2 _ rfl
  obtain ⟨v3, y3, n3, e3, t3⟩ := hf 3 _ rfl
  obtain ⟨v4, y4, n4, e4, t4⟩ := hf 4 _ rfl
  obtain ⟨a0, c0, _, w0⟩ := DataW.trod_int Try.underlying3 t0
  obtain ⟨a1, c1, _, w1⟩ := DataW.trod_int Try.underlying3 t1
  obtain ⟨a2, c2, _, w2⟩ := DataW.trod_int Try.underlying3 t2
  obtain ⟨a3, c3, _, w3⟩ := DataW.trod_string Try.underlying9 t3
  obtain ⟨a4, c4, _, w4⟩ := DataW.trod_int Try.underlying38 t4
  injection c0 with c0; injection c1 with c1; injection c2 with c2; injection c3 with c3; injection c4 with c4
  subst c0 c1 c2 c3 c4
  refine ⟨a0, a1, a2, a3, a4, ?_⟩
  match cs, hl with
  | [d0, d1, d2, d3, d4], _ =>
    simp only [List.getElem?_cons_zero, List.getElem?_cons_succ, Option.some.injEq] at e0 e1 e2 e3 e4
    rw [e0, e1, e2, e3, e4]
set_option maxRecDepth 100000 in
theorem open_op15 {r : Reach} {b0 : Nat} {v : Value} {d : DataW H} {p : List MemPlace} (hv : Value.okWide Try.prog w r b0 56 v) (h : DataW.Trod enc Try.prog w base spare held 56 v d p) : ∃ (a b c : Int) (d : ByteArray) (u : Int), v = .agg #[.int .i64 a, .int .i64 b, .int .i64 c, .string d, .int .u32 u] := by
  obtain ⟨cs, rfl, hsz⟩ := okWide_struct Try.underlying56 hv
  obtain ⟨fuel, hf⟩ := h
  obtain ⟨a, b, c, d, u, hc⟩ := op15_open hf
  refine ⟨a, b, c, d, u, ?_⟩
  obtain ⟨l⟩ := cs
  have : l = [.int .i64 a, .int .i64 b, .int .i64 c, .string d, .int .u32 u] := hc
  rw [this]
theorem course_open {fuel : Nat} {cs : List Value} {x : DataW H × List MemPlace} (h : DataW.trod enc Try.prog w base spare held fuel 50 cs = some x) : ∃ (a b c t : Int) (sv : Value), cs = [.int .i64 a, .int .i64 b, .int .i64 c, .int .i64 t, sv] ∧ I64 a ∧ I64 b ∧ I64 c := by
  obtain ⟨hl, hf⟩ := trod_cells Try.underlying50 (by kernel_rfl) (by kernel_rfl) h
  obtain ⟨v0, y0, n0, e0, t0⟩ := hf 0 _ rfl
  obtain ⟨v1, y1, n1, e1, t1⟩ := hf 1 _ rfl
  obtain ⟨v2, y2, n2, e2, t2⟩ := hf 2 _ rfl
  obtain ⟨v3, y3, n3, e3, t3⟩ := hf 3 _ rfl
  obtain ⟨v4, y4, n4, e4, t4⟩ := hf 4 _ rfl
  obtain ⟨a0, c0, _, w0⟩ := DataW.trod_int Try.underlying3 t0
  obtain ⟨a1, c1, _, w1⟩ := DataW.trod_int Try.underlying3 t1
  obtain ⟨a2, c2, _, w2⟩ := DataW.trod_int Try.underlying3 t2
  obtain ⟨a3, c3, _, w3⟩ := DataW.trod_int Try.underlying2 t3
  injection c0 with c0; injection c1 with c1; injection c2 with c2; injection c3 with c3
  subst c0 c1 c2 c3
  refine ⟨a0, a1, a2, a3, v4, ?_, bounds_i64 w0, bounds_i64 w1, bounds_i64 w2⟩
  match cs, hl with
  | [d0, d1, d2, d3, d4], _ =>
    simp only [List.getElem?_cons_zero, List.getElem?_cons_succ, Option.some.injEq] at e0 e1 e2 e3 e4
    rw [e0, e1, e2, e3, e4]
set_option maxRecDepth 100000 in
theorem open_course {r : Reach} {b0 : Nat} {v : Value} {d : DataW H} {p : List MemPlace} (hv : Value.okWide Try.prog w r b0 50 v) (h : DataW.Trod enc Try.prog w base spare held 50 v d p) : ∃ (a b c t : Int) (sv : Value), v = .agg #[.int .i64 a, .int .i64 b, .int .i64 c, .int .i64 t, sv] ∧ I64 a ∧ I64 b ∧ I64 c := by
  obtain ⟨cs, rfl, hsz⟩ := okWide_struct Try.underlying50 hv
  obtain ⟨fuel, hf⟩ := h
  obtain ⟨a, b, c, t, sv, hc, hw⟩ := course_open hf
  refine ⟨a, b, c, t, sv, ?_, hw⟩
  obtain ⟨l⟩ := cs
  have : l = [.int .i64 a, .int .i64 b, .int .i64 c, .int .i64 t, sv] := hc
  rw [this]
end
end
section
set_option maxHeartbeats 1000000 in
set_option maxRecDepth 100000 in
theorem State_exact (f : Fm) (g : Nat) (w : World) (hh : f.half ≠ 0) (hB : Blk w g f.cells 112) : Calls Try.prog 27 #[.pointer (some ⟨g, 0, none⟩)] w fun e w' => e = .returned f.st.val ∧ w' = w.alloc (.cells #[.int .i64 f.st.chan, .bool f.st.lockout, .bool f.st.wait, .bool f.st.retx, .int .i64 f.st.bypd, .int .i64 f.st.next] 35) := by
  obtain ⟨cr, h, ⟨ch, lo, wa, re, by_, nx⟩⟩ := f
  have HB := Lib.hid (hB.alloc (Obj.cells #[.int .i64 0, .bool false, .bool false, .bool false, .int .i64 0, .int .i64 0] 35)); clear hB
  have c0 := HB.out.cell 0
  have c1 := HB.out.cell 1
  have c2 := HB.out.cell 2
  have c3 := HB.out.cell 3
  have c4 := HB.out.cell 4
  have c5 := HB.out.cell 5
  have c6 := HB.out.cell 6
  have c7 := HB.out.cell 7
  simp only [Fm.cells, List.getElem?_cons_zero, List.getElem?_cons_succ] at c0 c1 c2 c3 c4 c5 c6 c7
  have hn := Lib.hid (none_any ⟨cr, h, ⟨ch, lo, wa, re, by_, nx⟩⟩ g _ false (by simpa using hh) HB.out)
  go_enter Try.func27, Try.ntmps27
  go_wp2_with fail
  refine hn.out.mono ?_
  rintro e w1 ⟨rfl, rfl⟩
  go_wp2_with fail
  refine ret_cell rfl w.heap.size 35 (Wd.mk ch lo wa re by_ nx).cells rfl (Blk.new w _ _) Try.underlying35 rfl (by kernel_rfl) rfl ?_
  exact ⟨rfl, rfl⟩
end
section
open Go.Deep in
section
open Go.ChangeShapes Go.WideShapes Go.ChangeAt Go.Deep
/-- A list of one-celled values among the arguments. -/
def RowAt (w : World) (a : Option Addr) (n : Nat) (V : Nat → Value) : Prop := ∀ i, i < n → ∃ b off, a = some ⟨b, off, none⟩ ∧ b < w.heap.size ∧ w.cell? ⟨b, off + i, none⟩ = some (V i)
theorem RowAt.below {w w' : World} {a : Option Addr} {n B : Nat} {V : Nat → Value} (h : RowAt w a n V) (k : Below B w w') (hB : w.heap.size ≤ B) : RowAt w' a n V := by
  intro i hi
  obtain ⟨b, off, e, hb, hc⟩ := h i hi
  exact ⟨b, off, e, Nat.lt_of_lt_of_le hb k.size, (k.cell (p := ⟨b, off + i, none⟩) (Nat.lt_of_lt_of_le hb hB)).trans hc⟩
variable {H : Type} {enc : TypeId × Value → H} {w : World} {base : Nat} {spare : Nat → Bool} {held : Bool}
set_option maxRecDepth 100000 in
theorem ints_open {fuel : Nat} {v : Value} {x : DataW H × List MemPlace} (hf : DataW.trod enc Try.prog w base spare held fuel 48 [v] = some x) :
    ∃ a n cap, ∃ S : Nat → Int, v = .slice a n cap ∧ n ≤ 9223372036854775807 ∧ RowAt w a n (fun i => .int .i64 (S i)) ∧ ∀ i, i < n → I64 (S i) := by
  rcases open_slice Try.underlying48 hf with ⟨hcs, hx⟩ | ⟨a, len, cap, m, n, D, Pl, hcs, hb, hl, hm, hmm, hx, hel⟩
  · simp at hcs
    subst hcs
    exact ⟨none, 0, 0, fun _ => 0, rfl, by omega, fun i hi => by omega, fun i hi => by omega⟩
  · simp at hcs
    subst hcs
    have hc1 : Try.prog.cellsOf 3 = 1 := by kernel_rfl
    have hlm : len ≤ m := by rw [hmm]; split <;> omega
    obtain ⟨b, off, spot⟩ := a
    have hspot : 0 < len → spot = none := fun h0 => by
      obtain ⟨cs', h1, h2⟩ := hel 0 (by omega)
      obtain ⟨s, rfl, _⟩ := DataW.trod_int Try.underlying3 h2
      rw [hc1] at h1
      obtain ⟨_, _, hc⟩ := World.cells?_some h1
      have c0 := hc 0 (by omega)
      have := World.cell?_spot (c0.trans rfl)
      simpa [Addr.add] using this
    have each : ∀ i, i < len → ∃ s : Int, b < w.heap.size ∧ w.cell? ⟨b, off + i, none⟩ = some (.int .i64 s) ∧ (Lit.int .i64 s).wf = true := fun i hi => by
      obtain ⟨cs', h1, h2⟩ := hel i (by omega)
      obtain ⟨s, rfl, _, hw⟩ := DataW.trod_int Try.underlying3 h2
      rw [hc1] at h1
      obtain ⟨_, _, hc⟩ := World.cells?_some h1
      obtain rfl := hspot (by omega)
      have hcell : w.cell? ⟨b, off + i, none⟩ = some (.int .i64 s) := by
        have := hc 0 (by omega)
        rw [add_add] at this
        rw [show (some (Value.int .i64 s) : Option Value) = [Value.int .i64 s][0]? from rfl, ← this]
        congr 1
        unfold Addr.add
        split
        · rename_i h; rw [show off + i = off by omega]
        · simp only [Addr.mk.injEq, and_true, true_and]; omega
      exact ⟨s, World.block_lt_of_cell? _ _ hcell, hcell, hw⟩
    obtain ⟨S, hS⟩ := choose_lt (α := Int) each
    refine ⟨some ⟨b, off, spot⟩, len, cap, S, rfl, ?_, fun i hi => ?_, fun i hi => bounds_i64 (hS i hi).2.2⟩
    · have : cap ≤ 9223372036854775807 := hm
      omega
    · obtain ⟨h1, h2, _⟩ := hS i hi
      obtain rfl := hspot (by omega)
      exact ⟨b, off, rfl, h1, h2⟩
theorem course_open2 {fuel : Nat} {cs : List Value} {x : DataW H × List MemPlace} (h : DataW.trod enc Try.prog w base spare held fuel 50 cs = some x) : ∃ (a b c t : Int) (sa : Option Addr) (sn sc : Nat) (S : Nat → Int), cs = [.int .i64 a, .int .i64 b, .int .i64 c, .int .i64 t, .slice sa sn sc] ∧ I64 a ∧ I64 b ∧ I64 c ∧ sn ≤ 9223372036854775807 ∧ RowAt w sa sn (fun i => .int .i64 (S i)) ∧ ∀ i, i < sn → I64 (S i) := by
  obtain ⟨hl, hf⟩ := trod_cells Try.underlying50 (by kernel_rfl) (by kernel_rfl) h
  obtain ⟨v0, y0, n0, e0, t0⟩ := hf 0 _ rfl
  obtain ⟨v1, y1, n1, e1, t1⟩ := hf 1 _ rfl
  obtain ⟨v2, y2, n2, e2, t2⟩ := hf 2 _ rfl
  obtain ⟨v3, y3, n3, e3, t3⟩ := hf 3 _ rfl
  obtain ⟨v4, y4, n4, e4, t4⟩ := hf 4 _ rfl
  obtain ⟨a0, c0, _, w0⟩ := DataW.trod_int Try.underlying3 t0
  obtain ⟨a1, c1, _, w1⟩ := DataW.trod_int Try.underlying3 t1
  obtain ⟨a2, c2, _, w2⟩ := DataW.trod_int Try.underlying3 t2
  obtain ⟨a3, c3, _, w3⟩ := DataW.trod_int Try.underlying2 t3
  obtain ⟨sa, sn, sc, S, c4, hn, hr, hw⟩ := ints_open t4
  injection c0 with c0; injection c1 with c1; injection c2 with c2; injection c3 with c3
  subst c0 c1 c2 c3 c4
  refine ⟨a0, a1, a2, a3, sa, sn, sc, S, ?_, bounds_i64 w0, bounds_i64 w1, bounds_i64 w2, hn, hr, hw⟩
  match cs, hl with
  | [d0, d1, d2, d3, d4], _ =>
    simp only [List.getElem?_cons_zero, List.getElem?_cons_succ, Option.some.injEq] at e0 e1 e2 e3 e4
    rw [e0, e1, e2, e3, e4]
set_option maxRecDepth 100000 in
theorem open_course2 {r : Reach} {b0 : Nat} {v : Value} {d : DataW H} {p : List MemPlace} (hv : Value.okWide Try.prog w r b0 50 v) (h : DataW.Trod enc Try.prog w base spare held 50 v d p) : ∃ (a b c t : Int) (sa : Option Addr) (sn sc : Nat) (S : Nat → Int), v = .agg #[.int .i64 a, .int .i64 b, .int .i64 c, .int .i64 t, .slice sa sn sc] ∧ I64 a ∧ I64 b ∧ I64 c ∧ sn ≤ 9223372036854775807 ∧ RowAt w sa sn (fun i => .int .i64 (S i)) ∧ ∀ i, i < sn → I64 (S i) := by
  obtain ⟨cs, rfl, hsz⟩ := okWide_struct Try.underlying50 hv
  obtain ⟨fuel, hf⟩ := h
  obtain ⟨a, b, c, t, sa, sn, sc, S, hc, hw⟩ := course_open2 hf
  refine ⟨a, b, c, t, sa, sn, sc, S, ?_, hw⟩
  obtain ⟨l⟩ := cs
  have : l = [.int .i64 a, .int .i64 b, .int .i64 c, .int .i64 t, .slice sa sn sc] := hc
  rw [this]
end
set_option maxHeartbeats 8000000 in
set_option maxRecDepth 100000 in
theorem FopPair_out (a b c tm : Int) (sa : Option Addr) (sn sc : Nat) (w : World) (hsn : sn ≤ 9223372036854775807) (ht : 3000 < sn ∨ tm < 1 ∨ 1073741824 < tm) :
    Calls Try.prog 6 #[.agg #[.int .i64 a, .int .i64 b, .int .i64 c, .int .i64 tm, .slice sa sn sc]] w fun e w' => e = .returned (.bool true) ∧ Below w.heap.size w w' := by
  have HL := Lib.hid ((Below.refl w.heap.size w).alloc (Nat.le_refl _) (Obj.cells #[.int .i64 a, .int .i64 b, .int .i64 c, .int .i64 tm, .slice sa sn sc] 50))
  have HO := Lib.hid (Blk.new w [.int .i64 a, .int .i64 b, .int .i64 c, .int .i64 tm, .slice sa sn sc] 50)
  have HC := Lib.hid ht
  clear ht
  go_enter Try.func6, Try.ntmps6
  go_wp2_with fail
  refine (shown15_any _).mono ?_
  rintro e w1 ⟨rfl, hL⟩
  replace HO := Lib.hid (HO.out.below hL HO.out.lt)
  replace HL := Lib.hid (HL.out.trans (hL.mono HL.out.size))
  clear hL
  have x0 := HO.out.cell 0
  have x1 := HO.out.cell 1
  have x2 := HO.out.cell 2
  have x3 := HO.out.cell 3
  have x4 := HO.out.cell 4
  simp only [List.getElem?_cons_zero, List.getElem?_cons_succ] at x0 x1 x2 x3 x4
  by_cases hc1 : 3000 < sn
  · have k1 : (3000 : Int) < (sn : Int) := by omega
    go_wp2_with fail
    go_ret
    exact ⟨rfl, HL.out⟩
  · have k1 : ¬ (3000 : Int) < (sn : Int) := by omega
    by_cases hc2 : tm < 1
    · go_wp2_with fail
      go_ret
      exact ⟨rfl, HL.out⟩
    · have k3 : 1073741824 < tm := by rcases HC.out with h | h | h <;> omega
      go_wp2_with fail
      go_ret
      exact ⟨rfl, HL.out⟩
theorem Fin.order {k n0 L : Nat} {tm : Int} {c : Nat} {p : Pr} (h : Fin k n0 L tm c p) : p.acked ≤ p.acc.length ∧ p.acc.length ≤ p.units.length ∧ p.f.st.lockout = false ∧ p.f.half ≠ 0 ∧ (p.alert = 0 ∨ p.alert = 1) := by
  rcases h with ⟨ups, dws, b, h, _⟩ | ⟨h1, h2, h3, h4, h5⟩
  · have h1 := h.fhalf; have h2 := h.hk
    exact ⟨by rw [h.acked]; exact h.bN, h.au, h.flock, by omega, .inl h.al⟩
  · exact ⟨h4, h5, h2, h3, .inr h1⟩
set_option maxHeartbeats 8000000 in
set_option maxRecDepth 100000 in
theorem FopPair_in (a b c tm : Int) (sa : Option Addr) (sn sc : Nat) (S : Nat → Int) (w : World) (ha : I64 a) (hb : I64 b) (hc : I64 c) (hsn : sn ≤ 3000) (hr : RowAt w sa sn (fun i => .int .i64 (S i))) (hS : ∀ i, i < sn → I64 (S i)) (ht1 : 1 ≤ tm) (ht2 : tm ≤ 1073741824) :
    Calls Try.prog 6 #[.agg #[.int .i64 a, .int .i64 b, .int .i64 c, .int .i64 tm, .slice sa sn sc]] w fun e w' => e = .returned (.bool true) ∧ Below w.heap.size w w' := by
  have HL := Lib.hid ((Below.refl w.heap.size w).alloc (Nat.le_refl _) (Obj.cells #[.int .i64 a, .int .i64 b, .int .i64 c, .int .i64 tm, .slice sa sn sc] 50))
  have HO := Lib.hid (Blk.new w [.int .i64 a, .int .i64 b, .int .i64 c, .int .i64 tm, .slice sa sn sc] 50)
  have HR := Lib.hid hr
  have HSS := Lib.hid hS
  have HBG := Lib.hid (fun W => begin_any a b c tm W ha hb hc ht1 ht2)
  obtain ⟨k, hk⟩ : ∃ k, k = (1 + a % 127).toNat := ⟨_, rfl⟩
  obtain ⟨L, hL⟩ : ∃ L, L = (1 + b % 100).toNat := ⟨_, rfl⟩
  obtain ⟨n0, hn0⟩ : ∃ n, n = (c % 256).toNat := ⟨_, rfl⟩
  rw [← hk, ← hL, ← hn0] at HBG
  have HI0 := Lib.hid (start_inv k L tm n0 (by omega) (by omega) ⟨ht1, ht2⟩ (by omega))
  clear hr hS ha hb hc hk hL hn0
  have k0 : ¬ (3000 : Int) < (sn : Int) := by omega
  have k1 : ¬ tm < 1 := by omega
  have k2 : ¬ 1073741824 < tm := by omega
  go_enter Try.func6, Try.ntmps6
  go_wp2_with fail
  refine (shown15_any _).mono ?_
  rintro e w1 ⟨rfl, hL⟩
  replace HO := Lib.hid (HO.out.below hL HO.out.lt)
  replace HL := Lib.hid (HL.out.trans (hL.mono HL.out.size))
  clear hL
  have x0 := HO.out.cell 0
  have x1 := HO.out.cell 1
  have x2 := HO.out.cell 2
  have x3 := HO.out.cell 3
  have x4 := HO.out.cell 4
  simp only [List.getElem?_cons_zero, List.getElem?_cons_succ] at x0 x1 x2 x3 x4
  go_wp2_with fail
  refine (HBG.out _).mono ?_
  rintro e w2 ⟨P, gf, gg, rfl, hP⟩
  have HP0 := Lib.hid hP
  clear hP HBG HO x0 x1 x2 x3 x4
  have HF0 := Lib.hid (HI0.out.fin (c := 0) (Nat.le_refl 0) (Nat.zero_le _) (Nat.zero_le _))
  clear HI0
  go_wp2_with fail
  go_loopw [6] (fun iv wr => ∃ i : Nat, i ≤ sn ∧ iv = .int .i64 i ∧ ∃ uv dv nv av p, PairAt w1 wr P gf gg uv dv nv av p ∧ Fin k n0 L tm i p) (fun iv _ => sn - (intOf iv).toNat)
  case atStart => exact ⟨0, Nat.zero_le _, rfl, _, _, _, _, _, HP0.out, HF0.out⟩
  case round =>
    obtain ⟨i, hi, rfl, uv, dv, nv, av, p, hP, hF⟩ := hrel
    obtain ⟨o1, o2, o3, o4, o5⟩ := hF.order
    have c7 := hP.blk.cell 7
    simp only [pairCells, List.getElem?_cons_zero, List.getElem?_cons_succ] at c7
    have HF := Lib.hid hF
    have HP := Lib.hid hP
    have HW := Lib.hid (HL.out.trans (hP.fop.toBelow.mono HL.out.size))
    clear hP hF o3 o4
    by_cases hgo : i < sn ∧ p.alert = 0
    · obtain ⟨hlt, hal⟩ := hgo
      have hlt2 : (i : Int) < (sn : Int) := by omega
      rw [hal] at c7
      obtain ⟨q, off, hsa, hql, hcell⟩ := HR.out.below HW.out (Nat.le_refl _) i hlt
      subst hsa
      have hI : ∃ ups dws b, Inv k n0 L tm p ups dws b ∧ Sz i p ups dws := by
        rcases HF.out with h | h
        · exact h
        · have := h.1; omega
      obtain ⟨ups, dws, b, hI, hS⟩ := hI
      have HA := Lib.hid (act_any hI hS (by omega) (S i) (HSS.out i hlt) HP.out)
      clear hI hS HF HP
      go_wp2_with fail
      refine HA.out.mono ?_
      rintro e w3 ⟨rfl, uv', dv', nv', av', p', hP', hF'⟩
      clear HA c7 hcell
      obtain ⟨q1, q2, q3, q4, q5⟩ := hF'.order
      have c1 := hP'.blk.cell 1
      simp only [pairCells, List.getElem?_cons_zero, List.getElem?_cons_succ] at c1
      have HST := Lib.hid (show Calls Try.prog 27 #[.pointer (some ⟨gg, 0, none⟩)] w3 fun e w' => e = .returned (.agg #[.int .i64 p'.f.st.chan, .bool false, .bool p'.f.st.wait, .bool p'.f.st.retx, .int .i64 p'.f.st.bypd, .int .i64 p'.f.st.next]) ∧ Below w3.heap.size w3 w' from
        (State_exact p'.f gg w3 q4 hP'.farm).mono fun e w' h => ⟨by rw [h.1]; unfold Wd.val; rw [q3], by rw [h.2]; exact (Below.refl _ _).alloc (Nat.le_refl _) _⟩)
      have HP := Lib.hid hP'; have HF := Lib.hid hF'
      clear hP' hF' q1 q2 q3 q4 q5
      go_wp2_with fail
      refine HST.out.mono ?_
      rintro e w4 ⟨rfl, hL4⟩
      replace HP := Lib.hid (HP.out.below hL4)
      clear hL4 HST c1
      have hf1 := wd_field1' p'.f.st.chan p'.f.st.bypd p'.f.st.next false p'.f.st.wait p'.f.st.retx
      go_wp2_with fail
      go_roundw
      case rel => exact ⟨i + 1, by omega, by go_num, _, _, _, _, _, HP.out, HF.out⟩
      case measure => simp [intOf]; omega
    · have c5 := HP.out.blk.cell 5; have c4 := HP.out.blk.cell 4; have c6 := HP.out.blk.cell 6
      obtain ⟨aa, ac, hav⟩ := qform HP.out.acc
      obtain ⟨na, nc, hnv⟩ := qform HP.out.units
      subst hav hnv
      simp only [pairCells, List.getElem?_cons_zero, List.getElem?_cons_succ] at c4 c5 c6
      have k3 : (p.acked : Int) ≤ (p.acc.length : Int) := by omega
      have k4 : (p.acc.length : Int) ≤ (p.units.length : Int) := by omega
      have e1 : decide (i < sn) = true ∧ (p.alert == 0) = false ∨ decide (i < sn) = false := by
        by_cases h : i < sn
        · exact .inl ⟨by simpa using h, by simp only [beq_eq_false_iff_ne, ne_eq]; exact fun h2 => hgo ⟨h, h2⟩⟩
        · exact .inr (by simpa using h)
      clear hgo o5 HF
      rcases e1 with ⟨e1, e2⟩ | e1
      all_goals
        go_upto_region 14 with fail
        go_quiet (fail)
        refine post_any (fun W => Below w.heap.size w W) (HW.out.trans ((below_quiet wr _).1.mono HW.out.size)) ?_
        clear HP HW c4 c5 c6 c7
        rintro w5 hL5
        have HL5 := Lib.hid hL5; clear hL5
        go_wp2_with fail
        go_ret
        exact ⟨rfl, HL5.out⟩
theorem FopPair_any (a b c tm : Int) (sa : Option Addr) (sn sc : Nat) (S : Nat → Int) (w : World) (ha : I64 a) (hb : I64 b) (hc : I64 c) (hsn : sn ≤ 9223372036854775807) (hr : RowAt w sa sn (fun i => .int .i64 (S i))) (hS : ∀ i, i < sn → I64 (S i)) :
    Calls Try.prog 6 #[.agg #[.int .i64 a, .int .i64 b, .int .i64 c, .int .i64 tm, .slice sa sn sc]] w fun e w' => e = .returned (.bool true) ∧ Below w.heap.size w w' := by
  by_cases h : 3000 < sn ∨ tm < 1 ∨ 1073741824 < tm
  · exact FopPair_out a b c tm sa sn sc w hsn h
  · exact FopPair_in a b c tm sa sn sc S w ha hb hc (by omega) hr hS (by omega) (by omega)
end
end Go.Proofs.Ytbncejmohhejlaa
