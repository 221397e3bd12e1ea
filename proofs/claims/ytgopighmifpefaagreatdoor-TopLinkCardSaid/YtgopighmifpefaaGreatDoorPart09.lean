/- What is proved here: a part of the proof of TopLink (texts Fo13 F6 F9 F10). No condition. -/
import Derived.Laws.IdiomRangeMap
import Derived.WideMake
import Derived.Maps.RangeRun
import Derived.Test.YtgopighmifpefaaGreatDoorPart03
import Derived.Test.YtgopighmifpefaaGreatDoorPart07
import Derived.Test.YtgopighmifpefaaGreatDoorPart08
set_option linter.unusedVariables false
set_option linter.unusedSimpArgs false
namespace Go.Proofs.YtgopighmifpefaaGreatDoor
section
open Go.RowKit
def ackEv (u : Ut) : Ev := ⟨2, u.id, 0⟩
section
variable (s : Fs) (g : Nat) (S : List Nat) (w : World)
set_option maxHeartbeats 4000000 in
set_option maxRecDepth 100000 in
theorem proceed_lock (xc xb xn : Int) (xw xr : Bool) (he : s.events.length ≤ 1000000) (hSl : ∀ i ∈ S, i < w.heap.size) (h : FopIn w g S s) :
    Calls Tryz.prog 51 #[.pointer (some ⟨g, 0, none⟩), .agg #[.int .i64 xc, .bool true, .bool xw, .bool xr, .int .i64 xb, .int .i64 xn]] w fun e w' => e = .returned (.tuple #[]) ∧ FopTo w w' g S (alertF s 2) := by
  have HT := Lib.hid ((Pt.refl h).keepB ((Below.refl w.heap.size w).alloc (Nat.le_refl _) (Obj.cells #[.int .i64 xc, .bool true, .bool xw, .bool xr, .int .i64 xb, .int .i64 xn] 78)))
  have HX := Lib.hid (Blk.new w [.int .i64 xc, .bool true, .bool xw, .bool xr, .int .i64 xb, .int .i64 xn] 78)
  have HSL := Lib.hid hSl
  clear h hSl
  go_enter Tryz.func51, Tryz.ntmps51
  go_upto_region 1 with fail
  refine gen_world (fun W => Pt w W g S S s ∧ Blk W w.heap.size [.int .i64 xc, .bool true, .bool xw, .bool xr, .int .i64 xb, .int .i64 xn] 78) ⟨HT.out, HX.out⟩ ?_
  clear HT HX
  rintro w1 ⟨hT, hX⟩
  have HT := Lib.hid hT; have HX := Lib.hid hX; clear hT hX
  have HN0 := Lib.hid (fun (h : w.heap.size ∈ S) => (by have := HSL.out _ h; omega : False))
  have x0 := HX.out.cell 0
  have x1 := HX.out.cell 1
  have x2 := HX.out.cell 2
  have x3 := HX.out.cell 3
  have x4 := HX.out.cell 4
  have x5 := HX.out.cell 5
  simp only [List.getElem?_cons_zero, List.getElem?_cons_succ] at x0 x1 x2 x3 x4 x5
  go_wp2_with fail
  refine (alert_in 2 s g S _ he HT.out.in_).mono ?_
  rintro e w2 ⟨rfl, hT⟩
  obtain ⟨S1, hT⟩ := HT.out.trans hT
  replace HT := Lib.hid hT; clear hT
  go_wp2_with fail
  exact bodyPost_ret (v := .tuple #[]) (by simp [results, Tryz.results51, go_sem]) rfl ⟨rfl, HT.out.to⟩
def ackF (s : Fs) (k : Nat) : Fs := { (if 0 < k then { s with tries := 1, clock := s.timeout, asked := false } else s : Fs) with sent := s.sent.drop k, events := s.events ++ (s.sent.take k).map ackEv }
def takenF (s : Fs) (xn : Int) (xw : Bool) (k : Nat) : Fs := { ackF s k with base := xn, held := xw }
def wordF (s : Fs) (xn : Int) (xw xr : Bool) (k : Nat) : Fs := if xr && !(takenF s xn xw k).asked then { markF (takenF s xn xw k) with asked := true } else takenF s xn xw k
set_option maxHeartbeats 8000000 in
set_option maxRecDepth 100000 in
theorem proceed_ok (xc xb xn : Int) (xw xr : Bool) (kn : Nat) (he : s.events.length ≤ 1000) (hsl : s.sent.length ≤ 127) (hb0 : 0 ≤ s.base) (hb1 : s.base ≤ 255) (hn0 : 0 ≤ xn) (hn1 : xn ≤ 255) (hkc : (xn - s.base) % 256 = (kn : Int)) (hk : kn ≤ s.sent.length) (hSl : ∀ i ∈ S, i < w.heap.size) (h : FopIn w g S s) :
    Calls Tryz.prog 51 #[.pointer (some ⟨g, 0, none⟩), .agg #[.int .i64 xc, .bool false, .bool xw, .bool xr, .int .i64 xb, .int .i64 xn]] w fun e w' => e = .returned (.tuple #[]) ∧ FopTo w w' g S (wordF s xn xw xr kn) := by
  have hb := and255' (xn - s.base) (by omega) (by omega)
  rw [hkc] at hb
  have hw1 : IntKind.i64.wrap (xn - s.base) = xn - s.base := IntWalk.i64_in _ (by omega)
  have hk2 : ¬ ((s.sent.length : Int) < (kn : Int)) := by omega
  have hk3 : ¬ (s.sent.length < kn) := by omega
  clear hkc
  have HT := Lib.hid ((Pt.refl h).keepB ((Below.refl w.heap.size w).alloc (Nat.le_refl _) (Obj.cells #[.int .i64 xc, .bool false, .bool xw, .bool xr, .int .i64 xb, .int .i64 xn] 78)))
  have HX := Lib.hid (Blk.new w [.int .i64 xc, .bool false, .bool xw, .bool xr, .int .i64 xb, .int .i64 xn] 78)
  have HSL := Lib.hid hSl
  clear h hSl
  go_enter Tryz.func51, Tryz.ntmps51
  go_upto_region 1 with fail
  refine gen_world (fun W => Pt w W g S S s ∧ Blk W w.heap.size [.int .i64 xc, .bool false, .bool xw, .bool xr, .int .i64 xb, .int .i64 xn] 78) ⟨HT.out, HX.out⟩ ?_
  clear HT HX
  rintro w1 ⟨hT, hX⟩
  have HT := Lib.hid hT; have HX := Lib.hid hX; clear hT hX
  have HN0 := Lib.hid (fun (h : w.heap.size ∈ S) => (by have := HSL.out _ h; omega : False))
  have x0 := HX.out.cell 0
  have x1 := HX.out.cell 1
  have x2 := HX.out.cell 2
  have x3 := HX.out.cell 3
  have x4 := HX.out.cell 4
  have x5 := HX.out.cell 5
  simp only [List.getElem?_cons_zero, List.getElem?_cons_succ] at x0 x1 x2 x3 x4 x5
  go_upto_region 3 with fail
  obtain ⟨ve, vw, vs, vb, hF, hS⟩ := HT.out.in_
  have HF := Lib.hid hF; have HS := Lib.hid hS; have HB := Lib.hid hF.blk; clear hF hS
  have c9 := HB.out.cell 9
  simp only [Fs.cells, List.getElem?_cons_zero, List.getElem?_cons_succ] at c9
  go_quiet (fail)
  clear c9 x0 x1 x2 x3 x4 x5
  refine post_any (fun W => Pt w W g S S s ∧ Blk W w.heap.size [.int .i64 xc, .bool false, .bool xw, .bool xr, .int .i64 xb, .int .i64 xn] 78) ⟨HT.out.drewN _, HX.out.drewN _⟩ ?_
  clear HT HX HF HS HB
  rintro w2 ⟨hT, hX⟩
  have HT := Lib.hid hT; have HX := Lib.hid hX; clear hT hX
  go_wp2_with fail
  refine (lenS_in s g S _ HT.out.in_).mono ?_
  rintro e _ ⟨rfl, rfl⟩
  clear hb hw1
  by_cases hz : 0 < kn
  · have hz2 : (0 : Int) < (kn : Int) := by omega
    go_wp2_with fail
    refine (again_in s g S _ HT.out.in_).mono ?_
    rintro e w3 ⟨rfl, hT⟩
    have hX1 := HX.out.lt
    replace HX := Lib.hid (HX.out.in_keep HN0.out hT)
    obtain ⟨S1, hT, hn1', hl1⟩ := HT.out.trans_far hT hX1 HN0.out
    replace HT := Lib.hid hT; have HN1 := Lib.hid hn1'; clear hT hX1 hn1'
    obtain ⟨ve, vw, vs, vb, hF, hS⟩ := HT.out.in_
    have HF := Lib.hid hF; have HS := Lib.hid hS; have HB := Lib.hid hF.blk; clear hF hS
    have c20 := HB.out.cell 20
    have f20 := HB.out.free 20
    simp only [Fs.cells, List.getElem?_cons_zero, List.getElem?_cons_succ] at c20
    go_upto_region 9 with fail
    refine gen_world (fun W => Pt w W g S S1 { s with tries := 1, clock := s.timeout, asked := false } ∧ Blk W w.heap.size [.int .i64 xc, .bool false, .bool xw, .bool xr, .int .i64 xb, .int .i64 xn] 78 ∧ ∀ i ∈ S1, i < W.heap.size) ⟨HT.out.upd (s' := { s with tries := 1, clock := s.timeout, asked := false }) HF.out HS.out (HB.out.set 20 _) ((Keep.refl [g] _).setCell (.inl (by simp)) _) rfl rfl rfl rfl, HX.out.set_far (fun e => HN1.out (by rw [e]; exact HS.out _ own_g)) _, fun i hi => by have := hl1 i hi; simpa using this⟩ ?_
    clear HT HX HF HS HB c20 f20 hl1
    rintro w4 ⟨hT, hX, hl1⟩
    have HX := Lib.hid hX; have HL1 := Lib.hid hl1
    obtain ⟨s1, hs1⟩ : ∃ s1, s1 = ({ s with tries := 1, clock := s.timeout, asked := false } : Fs) := ⟨_, rfl⟩
    have HS0 := Lib.hid (show Pt w w4 g S S1 { s1 with sent := s.sent.drop 0, events := s.events ++ (s.sent.take 0).map ackEv } by rw [hs1]; simpa using hT)
    have HAK := Lib.hid (show ({ s1 with sent := s.sent.drop kn, events := s.events ++ (s.sent.take kn).map ackEv } : Fs) = ackF s kn by rw [hs1]; unfold ackF; rw [if_pos hz])
    clear hT hX hl1 hs1
    go_wp2_with fail
    go_loopw [34] (fun iv wr => ∃ i : Nat, i ≤ kn ∧ iv = .int .i64 i ∧ ∃ Si, Pt w wr g S Si { s1 with sent := s.sent.drop i, events := s.events ++ (s.sent.take i).map ackEv } ∧ Blk wr w.heap.size [.int .i64 xc, .bool false, .bool xw, .bool xr, .int .i64 xb, .int .i64 xn] 78 ∧ w.heap.size ∉ Si ∧ ∀ x ∈ Si, x < wr.heap.size) (fun iv _ => kn - (intOf iv).toNat)
    case atStart => exact ⟨0, Nat.zero_le _, rfl, S1, HS0.out, HX.out, HN1.out, HL1.out⟩
    case round =>
      obtain ⟨i, hi, rfl, Si, hT, hX, hN, hLt⟩ := hrel
      have HT := Lib.hid hT; have HX := Lib.hid hX; have HN := Lib.hid hN; have HLt := Lib.hid hLt; clear hT hX hN hLt
      by_cases hlt : i < kn
      · have hdr := List.drop_eq_getElem_cons (show i < s.sent.length by omega)
        have hev : (s.events ++ (s.sent.take i).map ackEv).length ≤ 1000000 := by simp; omega
        have htk : s.events ++ (s.sent.take (i + 1)).map ackEv = (s.events ++ (s.sent.take i).map ackEv) ++ [⟨2, (s.sent[i]'(by omega)).id, 0⟩] := by
          rw [List.take_succ_eq_append_getElem (show i < s.sent.length by omega), List.map_append, List.append_assoc]
          rfl
        have hdl : (s.sent.drop (i + 1)).length ≤ 1000000 := by simp; omega
        have HTK := Lib.hid htk; have HDR := Lib.hid hdr
        clear htk hdr
        obtain ⟨u, hu⟩ : ∃ u, u = s.sent[i]'(by omega) := ⟨_, rfl⟩
        rw [← hu] at HTK HDR
        clear hu
        go_wp2_with fail
        refine (popS_in u (s.sent.drop (i + 1)) { s1 with sent := s.sent.drop i, events := s.events ++ (s.sent.take i).map ackEv } g Si _ HDR.out hdl HT.out.in_).mono ?_
        rintro e w3 ⟨rfl, hT⟩
        have hX1 := HX.out.lt
        replace HX := Lib.hid (HX.out.in_keep HN.out hT)
        obtain ⟨S2, hT, hn2, hl2⟩ := HT.out.trans_far hT hX1 HN.out
        replace HT := Lib.hid hT; clear hT hX1
        obtain ⟨b, hb2⟩ : ∃ b, b = w3.heap.size := ⟨_, rfl⟩
        go_upto_region 12 with fail
        rw [← hb2]
        refine gen_world (fun W => Pt w W g S S2 { s1 with sent := s.sent.drop (i + 1), events := s.events ++ (s.sent.take i).map ackEv } ∧ Blk W w.heap.size [.int .i64 xc, .bool false, .bool xw, .bool xr, .int .i64 xb, .int .i64 xn] 78 ∧ Blk W b [.int .i64 u.id, .string u.data, .bool u.mark] 74 ∧ w.heap.size ∉ S2) ⟨HT.out.keepB ((Below.refl _ _).alloc (Nat.le_refl _) _), HX.out.alloc _, by rw [hb2]; exact Blk.new w3 _ 74, hn2⟩ ?_
        clear HT HX hb2 hn2 hl2 HN HLt
        rintro w4 ⟨hT, hX, hY, hr2⟩
        have HT := Lib.hid hT; have HX := Lib.hid hX; have HR2 := Lib.hid hr2
        have y0 := hY.cell 0
        simp only [List.getElem?_cons_zero, List.getElem?_cons_succ] at y0
        clear hT hX hr2 hY
        go_region_with (first | (go_at_call 52; refine (report_in ⟨2, u.id, 0⟩ { s1 with sent := s.sent.drop (i + 1), events := s.events ++ (s.sent.take i).map ackEv } g S2 _ hev HT.out.drew.in_).mono ?_; rintro e w5 ⟨rfl, hT⟩) | fail)
        have hX1 := HX.out.lt
        have HX5 := Lib.hid (HX.out.drew.in_keep HR2.out hT)
        obtain ⟨S3, hT3, hn3, hl3⟩ := HT.out.drew.trans_far hT hX1 HR2.out
        have HT5 := Lib.hid (show Pt w w5 g S S3 { s1 with sent := s.sent.drop (i + 1), events := (s.events ++ (s.sent.take i).map ackEv) ++ [⟨2, u.id, 0⟩] } from hT3)
        rw [← HTK.out] at HT5
        have HN5 := Lib.hid hn3; have HL5 := Lib.hid hl3
        clear hT hT3 hn3 hl3 hX1 HT HX HR2 y0
        go_wp2_with fail
        go_roundw
        case rel => exact ⟨i + 1, by omega, by go_num, S3, HT5.out, HX5.out, HN5.out, HL5.out⟩
        case measure => simp [intOf]; omega
      · obtain rfl : i = kn := by omega
        clear hlt hi
        obtain ⟨s2, hs2⟩ : ∃ s2, s2 = ({ s1 with sent := s.sent.drop i, events := s.events ++ (s.sent.take i).map ackEv } : Fs) := ⟨_, rfl⟩
        have h2 : s2 = ackF s i := by rw [hs2]; exact HAK.out
        rw [← hs2, h2] at HT
        clear hs2 h2
        go_upto_region 14 with fail
        obtain ⟨ve, vw, vs, vb, hF, hS⟩ := HT.out.in_
        have HF := Lib.hid hF; have HS := Lib.hid hS; have HB := Lib.hid hF.blk; clear hF hS
        have c9 := HB.out.cell 9
        have c18 := HB.out.cell 18
        have f9 := HB.out.free 9
        have f18 := HB.out.free 18
        simp only [Fs.cells, List.getElem?_cons_zero, List.getElem?_cons_succ] at c9 c18
        have x2 := HX.out.cell 2; have x5 := HX.out.cell 5
        simp only [List.getElem?_cons_zero, List.getElem?_cons_succ] at x2 x5
        have hrg : w.heap.size ≠ g := fun e => by have := HF.out.lt g own_g; exact HN.out (by rw [e]; exact HS.out _ own_g)
        refine region_end (fun W => W.cell? ⟨w.heap.size, 5, none⟩ = some (.int .i64 xn) ∧ W.cell? ⟨w.heap.size, 2, none⟩ = some (.bool xw)) 11 (by kernel_rfl) ⟨x5, x2⟩ (fun hInv hHeld => ?_)
        refine WpEnd.take (i := 0) (some 48) (v := ?_) rfl rfl (by kernel_rfl) (by kernel_rfl) (by kernel_rfl) (fun _ _ _ h => h) (by kernel_rfl) hInv (by assumption) (by rfl) ?_ (fun hInv => ?_)
        rotate_left
        · (intro w hSw; (try dsimp only at hSw); go_simp; (try with_reducible rfl))
        simp only [Act.put, List.setIfInBounds_toArray, List.set_cons_zero, List.set_cons_succ]
        refine WpEnd.take (i := 1) (some 49) (v := ?_) rfl rfl (by kernel_rfl) (by kernel_rfl) (by kernel_rfl) (fun _ _ _ h => h) (by kernel_rfl) hInv (by assumption) (by rfl) ?_ (fun hInv => ?_)
        rotate_left
        · (intro w hSw; (try dsimp only at hSw); go_simp; (try with_reducible rfl))
        simp only [Act.put, List.setIfInBounds_toArray, List.set_cons_zero, List.set_cons_succ]
        refine WpEnd.take (i := 2) (some 50) (v := ?_) rfl rfl (by kernel_rfl) (by kernel_rfl) (by kernel_rfl) (fun _ _ _ h => h) (by kernel_rfl) hInv (by assumption) (by rfl) ?_ (fun hInv => ?_)
        rotate_left
        · (intro w hSw; (try dsimp only at hSw); go_simp; (try with_reducible rfl))
        simp only [Act.put, List.setIfInBounds_toArray, List.set_cons_zero, List.set_cons_succ]
        refine WpEnd.take (i := 3) (some 51) (v := ?_) rfl rfl (by kernel_rfl) (by kernel_rfl) (by kernel_rfl) (fun _ _ _ h => h) (by kernel_rfl) hInv (by assumption) (by rfl) ?_ (fun hInv => ?_)
        rotate_left
        · (intro w hSw; (try dsimp only at hSw); go_simp; (try with_reducible rfl))
        simp only [Act.put, List.setIfInBounds_toArray, List.set_cons_zero, List.set_cons_succ]
        refine WpEnd.take (i := 4) (some 52) (v := ?_) rfl rfl (by kernel_rfl) (by kernel_rfl) (by kernel_rfl) (fun _ _ _ h => h) (by kernel_rfl) hInv (by assumption) (by rfl) ?_ (fun hInv => ?_)
        rotate_left
        · (intro w hSw; (try dsimp only at hSw); go_simp; (try with_reducible rfl))
        simp only [Act.put, List.setIfInBounds_toArray, List.set_cons_zero, List.set_cons_succ]
        refine WpEnd.take (i := 5) (some 53) (v := ?_) rfl rfl (by kernel_rfl) (by kernel_rfl) (by kernel_rfl) (fun _ _ _ h => h) (by kernel_rfl) hInv (by assumption) (by rfl) ?_ (fun hInv => ?_)
        rotate_left
        · (intro w hSw; (try dsimp only at hSw); go_simp; (try with_reducible rfl))
        simp only [Act.put, List.setIfInBounds_toArray, List.set_cons_zero, List.set_cons_succ]
        refine WpEnd.take (i := 6) (some 54) (v := ?_) rfl rfl (by kernel_rfl) (by kernel_rfl) (by kernel_rfl) (fun _ _ _ h => h) (by kernel_rfl) hInv (by assumption) (by rfl) ?_ (fun hInv => ?_)
        rotate_left
        · (intro w hSw; (try dsimp only at hSw); go_simp; (try with_reducible rfl))
        simp only [Act.put, List.setIfInBounds_toArray, List.set_cons_zero, List.set_cons_succ]
        refine WpEnd.take (i := 7) (some 55) (v := ?_) rfl rfl (by kernel_rfl) (by kernel_rfl) (by kernel_rfl) (fun _ _ _ h => h) (by kernel_rfl) hInv (by assumption) (by rfl) ?_ (fun hInv => ?_)
        rotate_left
        · (intro w hSw; (try dsimp only at hSw); go_simp; (try with_reducible rfl))
        simp only [Act.put, List.setIfInBounds_toArray, List.set_cons_zero, List.set_cons_succ]
        refine WpEnd.ready (rs := [8]) (by kernel_rfl) (by simp) ?_
        refine EachEnd.cons none rfl rfl (by decide) (by kernel_rfl) hInv (fun K hKK hKB => ?_) EachEnd.nil
        go_simp
        have z5 : (wr.drew.setCell ⟨g, 9, none⟩ (.int .i64 xn)).cell? ⟨w.heap.size, 5, none⟩ = some (.int .i64 xn) := ((HX.out.drew.set_far (p := ⟨g, 9, none⟩) hrg _).cell 5)
        have z2 : (wr.drew.setCell ⟨g, 9, none⟩ (.int .i64 xn)).cell? ⟨w.heap.size, 2, none⟩ = some (.bool xw) := ((HX.out.drew.set_far (p := ⟨g, 9, none⟩) hrg _).cell 2)
        refine hKB.out _ _ ⟨z5, z2⟩ (fun hInv hHeld => ?_)
        clear hKK hKB K
        refine WpEnd.take (i := 9) (some 56) (v := ?_) rfl rfl (by kernel_rfl) (by kernel_rfl) (by kernel_rfl) (fun _ _ _ h => h) (by kernel_rfl) hInv (by assumption) (by rfl) ?_ (fun hInv => ?_)
        rotate_left
        · (intro w hSw; (try dsimp only at hSw); go_simp; (try with_reducible rfl))
        simp only [Act.put, List.setIfInBounds_toArray, List.set_cons_zero, List.set_cons_succ]
        refine WpEnd.take (i := 10) (some 57) (v := ?_) rfl rfl (by kernel_rfl) (by kernel_rfl) (by kernel_rfl) (fun _ _ _ h => h) (by kernel_rfl) hInv (by assumption) (by rfl) ?_ (fun hInv => ?_)
        rotate_left
        · (intro w hSw; (try dsimp only at hSw); go_simp; (try with_reducible rfl))
        simp only [Act.put, List.setIfInBounds_toArray, List.set_cons_zero, List.set_cons_succ]
        refine WpEnd.ready (rs := [11]) (by kernel_rfl) (by simp) ?_
        refine EachEnd.last rfl (fun K hKK => ?_)
        go_simp
        refine hKK.out _ _ ?_
        clear hKK K
        refine WpEnd.done (by kernel_rfl) ?_ _
        refine post_any (fun W => Pt w W g S Si (takenF s xn xw i) ∧ Blk W w.heap.size [.int .i64 xc, .bool false, .bool xw, .bool xr, .int .i64 xb, .int .i64 xn] 78) ⟨HT.out.upd (s' := takenF s xn xw i) HF.out HS.out ((HB.out.drew.set 9 (.int .i64 xn)).set 18 (.bool xw)) (((Keep.refl [g] _).drew.setCell (.inl (by simp)) _).setCell (.inl (by simp)) _) rfl rfl rfl rfl, (HX.out.drew.set_far (p := ⟨g, 9, none⟩) hrg _).set_far (p := ⟨g, 18, none⟩) hrg _⟩ ?_
        clear HT HX HF HS HB c9 c18 f9 f18 x2 x5 z5 z2 hHeld hInv HN HLt
        rintro w6 ⟨hT, hX⟩
        have HT := Lib.hid hT; have HX := Lib.hid hX; clear hT hX
        have x3 := HX.out.cell 3
        simp only [List.getElem?_cons_zero, List.getElem?_cons_succ] at x3
        have hml : (takenF s xn xw i).sent.length ≤ 1000000 := by simp [takenF, ackF]; omega
        cases xr with
        | false =>
          have HWF := Lib.hid (show wordF s xn xw false i = takenF s xn xw i from rfl)
          go_wp2_with fail
          go_end0
          exact ⟨rfl, by rw [HWF.out]; exact HT.out.to⟩
        | true =>
          obtain ⟨ve, vw, vs, vb, hF, hS⟩ := HT.out.in_
          have HF := Lib.hid hF; have HS := Lib.hid hS; have HB := Lib.hid hF.blk; clear hF hS
          have c20 := HB.out.cell 20
          simp only [Fs.cells, List.getElem?_cons_zero, List.getElem?_cons_succ] at c20
          cases hask : (takenF s xn xw i).asked with
          | true =>
            have HWF := Lib.hid (show wordF s xn xw true i = takenF s xn xw i by unfold wordF; rw [hask]; rfl)
            rw [hask] at c20
            clear hask
            go_wp2_with fail
            go_end0
            exact ⟨rfl, by rw [HWF.out]; exact HT.out.to⟩
          | false =>
            have HWF := Lib.hid (show wordF s xn xw true i = { markF (takenF s xn xw i) with asked := true } by unfold wordF; rw [hask]; rfl)
            rw [hask] at c20
            clear hask
            go_wp2_with fail
            refine (mark_in (takenF s xn xw i) g Si _ hml HT.out.in_).mono ?_
            rintro e w7 ⟨rfl, hT⟩
            obtain ⟨S1, hT⟩ := HT.out.trans hT
            replace HT := Lib.hid hT; clear hT
            clear HF HS HB c20 x3
            obtain ⟨ve, vw, vs, vb, hF, hS⟩ := HT.out.in_
            have HF := Lib.hid hF; have HS := Lib.hid hS; have HB := Lib.hid hF.blk; clear hF hS
            have c20 := HB.out.cell 20
            have f20 := HB.out.free 20
            simp only [Fs.cells, List.getElem?_cons_zero, List.getElem?_cons_succ] at c20
            go_wp2_with fail
            go_end0
            exact ⟨rfl, by rw [HWF.out]; exact (HT.out.upd (s' := { markF (takenF s xn xw i) with asked := true }) HF.out HS.out (HB.out.set 20 _) ((Keep.refl [g] _).setCell (.inl (by simp)) _) rfl rfl rfl rfl).to⟩
  · have hz2 : ¬ (0 : Int) < (kn : Int) := by omega
    obtain ⟨S1, hS1, hl1, hsub⟩ := HT.out.in_.small
    have hT : Pt w w2 g S S1 s := ⟨hS1, HT.out.keep, fun k hk => HT.out.new k (hsub k hk)⟩
    have HN1 := Lib.hid (fun h => HN0.out (hsub _ h)); have HL1 := Lib.hid hl1
    obtain ⟨s1, hs1⟩ : ∃ s1, s1 = s := ⟨_, rfl⟩
    have HS0 := Lib.hid (show Pt w w2 g S S1 { s1 with sent := s.sent.drop 0, events := s.events ++ (s.sent.take 0).map ackEv } by rw [hs1]; simpa using hT)
    have HAK := Lib.hid (show ({ s1 with sent := s.sent.drop kn, events := s.events ++ (s.sent.take kn).map ackEv } : Fs) = ackF s kn by rw [hs1]; unfold ackF; rw [if_neg hz])
    clear hT hs1 hS1 hl1 hsub
    go_wp2_with fail
    go_loopw [34] (fun iv wr => ∃ i : Nat, i ≤ kn ∧ iv = .int .i64 i ∧ ∃ Si, Pt w wr g S Si { s1 with sent := s.sent.drop i, events := s.events ++ (s.sent.take i).map ackEv } ∧ Blk wr w.heap.size [.int .i64 xc, .bool false, .bool xw, .bool xr, .int .i64 xb, .int .i64 xn] 78 ∧ w.heap.size ∉ Si ∧ ∀ x ∈ Si, x < wr.heap.size) (fun iv _ => kn - (intOf iv).toNat)
    case atStart => exact ⟨0, Nat.zero_le _, rfl, S1, HS0.out, HX.out, HN1.out, HL1.out⟩
    case round =>
      obtain ⟨i, hi, rfl, Si, hT, hX, hN, hLt⟩ := hrel
      have HT := Lib.hid hT; have HX := Lib.hid hX; have HN := Lib.hid hN; have HLt := Lib.hid hLt; clear hT hX hN hLt
      by_cases hlt : i < kn
      · exact absurd hlt (by omega)
      · obtain rfl : i = kn := by omega
        clear hlt hi
        obtain ⟨s2, hs2⟩ : ∃ s2, s2 = ({ s1 with sent := s.sent.drop i, events := s.events ++ (s.sent.take i).map ackEv } : Fs) := ⟨_, rfl⟩
        have h2 : s2 = ackF s i := by rw [hs2]; exact HAK.out
        rw [← hs2, h2] at HT
        clear hs2 h2
        go_upto_region 14 with fail
        obtain ⟨ve, vw, vs, vb, hF, hS⟩ := HT.out.in_
        have HF := Lib.hid hF; have HS := Lib.hid hS; have HB := Lib.hid hF.blk; clear hF hS
        have c9 := HB.out.cell 9
        have c18 := HB.out.cell 18
        have f9 := HB.out.free 9
        have f18 := HB.out.free 18
        simp only [Fs.cells, List.getElem?_cons_zero, List.getElem?_cons_succ] at c9 c18
        have x2 := HX.out.cell 2; have x5 := HX.out.cell 5
        simp only [List.getElem?_cons_zero, List.getElem?_cons_succ] at x2 x5
        have hrg : w.heap.size ≠ g := fun e => by have := HF.out.lt g own_g; exact HN.out (by rw [e]; exact HS.out _ own_g)
        refine region_end (fun W => W.cell? ⟨w.heap.size, 5, none⟩ = some (.int .i64 xn) ∧ W.cell? ⟨w.heap.size, 2, none⟩ = some (.bool xw)) 11 (by kernel_rfl) ⟨x5, x2⟩ (fun hInv hHeld => ?_)
        refine WpEnd.take (i := 0) (some 48) (v := ?_) rfl rfl (by kernel_rfl) (by kernel_rfl) (by kernel_rfl) (fun _ _ _ h => h) (by kernel_rfl) hInv (by assumption) (by rfl) ?_ (fun hInv => ?_)
        rotate_left
        · (intro w hSw; (try dsimp only at hSw); go_simp; (try with_reducible rfl))
        simp only [Act.put, List.setIfInBounds_toArray, List.set_cons_zero, List.set_cons_succ]
        refine WpEnd.take (i := 1) (some 49) (v := ?_) rfl rfl (by kernel_rfl) (by kernel_rfl) (by kernel_rfl) (fun _ _ _ h => h) (by kernel_rfl) hInv (by assumption) (by rfl) ?_ (fun hInv => ?_)
        rotate_left
        · (intro w hSw; (try dsimp only at hSw); go_simp; (try with_reducible rfl))
        simp only [Act.put, List.setIfInBounds_toArray, List.set_cons_zero, List.set_cons_succ]
        refine WpEnd.take (i := 2) (some 50) (v := ?_) rfl rfl (by kernel_rfl) (by kernel_rfl) (by kernel_rfl) (fun _ _ _ h => h) (by kernel_rfl) hInv (by assumption) (by rfl) ?_ (fun hInv => ?_)
        rotate_left
        · (intro w hSw; (try dsimp only at hSw); go_simp; (try with_reducible rfl))
        simp only [Act.put, List.setIfInBounds_toArray, List.set_cons_zero, List.set_cons_succ]
        refine WpEnd.take (i := 3) (some 51) (v := ?_) rfl rfl (by kernel_rfl) (by kernel_rfl) (by kernel_rfl) (fun _ _ _ h => h) (by kernel_rfl) hInv (by assumption) (by rfl) ?_ (fun hInv => ?_)
        rotate_left
        · (intro w hSw; (try dsimp only at hSw); go_simp; (try with_reducible rfl))
        simp only [Act.put, List.setIfInBounds_toArray, List.set_cons_zero, List.set_cons_succ]
        refine WpEnd.take (i := 4) (some 52) (v := ?_) rfl rfl (by kernel_rfl) (by kernel_rfl) (by kernel_rfl) (fun _ _ _ h => h) (by kernel_rfl) hInv (by assumption) (by rfl) ?_ (fun hInv => ?_)
        rotate_left
        · (intro w hSw; (try dsimp only at hSw); go_simp; (try with_reducible rfl))
        simp only [Act.put, List.setIfInBounds_toArray, List.set_cons_zero, List.set_cons_succ]
        refine WpEnd.take (i := 5) (some 53) (v := ?_) rfl rfl (by kernel_rfl) (by kernel_rfl) (by kernel_rfl) (fun _ _ _ h => h) (by kernel_rfl) hInv (by assumption) (by rfl) ?_ (fun hInv => ?_)
        rotate_left
        · (intro w hSw; (try dsimp only at hSw); go_simp; (try with_reducible rfl))
        simp only [Act.put, List.setIfInBounds_toArray, List.set_cons_zero, List.set_cons_succ]
        refine WpEnd.take (i := 6) (some 54) (v := ?_) rfl rfl (by kernel_rfl) (by kernel_rfl) (by kernel_rfl) (fun _ _ _ h => h) (by kernel_rfl) hInv (by assumption) (by rfl) ?_ (fun hInv => ?_)
        rotate_left
        · (intro w hSw; (try dsimp only at hSw); go_simp; (try with_reducible rfl))
        simp only [Act.put, List.setIfInBounds_toArray, List.set_cons_zero, List.set_cons_succ]
        refine WpEnd.take (i := 7) (some 55) (v := ?_) rfl rfl (by kernel_rfl) (by kernel_rfl) (by kernel_rfl) (fun _ _ _ h => h) (by kernel_rfl) hInv (by assumption) (by rfl) ?_ (fun hInv => ?_)
        rotate_left
        · (intro w hSw; (try dsimp only at hSw); go_simp; (try with_reducible rfl))
        simp only [Act.put, List.setIfInBounds_toArray, List.set_cons_zero, List.set_cons_succ]
        refine WpEnd.ready (rs := [8]) (by kernel_rfl) (by simp) ?_
        refine EachEnd.cons none rfl rfl (by decide) (by kernel_rfl) hInv (fun K hKK hKB => ?_) EachEnd.nil
        go_simp
        have z5 : (wr.drew.setCell ⟨g, 9, none⟩ (.int .i64 xn)).cell? ⟨w.heap.size, 5, none⟩ = some (.int .i64 xn) := ((HX.out.drew.set_far (p := ⟨g, 9, none⟩) hrg _).cell 5)
        have z2 : (wr.drew.setCell ⟨g, 9, none⟩ (.int .i64 xn)).cell? ⟨w.heap.size, 2, none⟩ = some (.bool xw) := ((HX.out.drew.set_far (p := ⟨g, 9, none⟩) hrg _).cell 2)
        refine hKB.out _ _ ⟨z5, z2⟩ (fun hInv hHeld => ?_)
        clear hKK hKB K
        refine WpEnd.take (i := 9) (some 56) (v := ?_) rfl rfl (by kernel_rfl) (by kernel_rfl) (by kernel_rfl) (fun _ _ _ h => h) (by kernel_rfl) hInv (by assumption) (by rfl) ?_ (fun hInv => ?_)
        rotate_left
        · (intro w hSw; (try dsimp only at hSw); go_simp; (try with_reducible rfl))
        simp only [Act.put, List.setIfInBounds_toArray, List.set_cons_zero, List.set_cons_succ]
        refine WpEnd.take (i := 10) (some 57) (v := ?_) rfl rfl (by kernel_rfl) (by kernel_rfl) (by kernel_rfl) (fun _ _ _ h => h) (by kernel_rfl) hInv (by assumption) (by rfl) ?_ (fun hInv => ?_)
        rotate_left
        · (intro w hSw; (try dsimp only at hSw); go_simp; (try with_reducible rfl))
        simp only [Act.put, List.setIfInBounds_toArray, List.set_cons_zero, List.set_cons_succ]
        refine WpEnd.ready (rs := [11]) (by kernel_rfl) (by simp) ?_
        refine EachEnd.last rfl (fun K hKK => ?_)
        go_simp
        refine hKK.out _ _ ?_
        clear hKK K
        refine WpEnd.done (by kernel_rfl) ?_ _
        refine post_any (fun W => Pt w W g S Si (takenF s xn xw i) ∧ Blk W w.heap.size [.int .i64 xc, .bool false, .bool xw, .bool xr, .int .i64 xb, .int .i64 xn] 78) ⟨HT.out.upd (s' := takenF s xn xw i) HF.out HS.out ((HB.out.drew.set 9 (.int .i64 xn)).set 18 (.bool xw)) (((Keep.refl [g] _).drew.setCell (.inl (by simp)) _).setCell (.inl (by simp)) _) rfl rfl rfl rfl, (HX.out.drew.set_far (p := ⟨g, 9, none⟩) hrg _).set_far (p := ⟨g, 18, none⟩) hrg _⟩ ?_
        clear HT HX HF HS HB c9 c18 f9 f18 x2 x5 z5 z2 hHeld hInv HN HLt
        rintro w6 ⟨hT, hX⟩
        have HT := Lib.hid hT; have HX := Lib.hid hX; clear hT hX
        have x3 := HX.out.cell 3
        simp only [List.getElem?_cons_zero, List.getElem?_cons_succ] at x3
        have hml : (takenF s xn xw i).sent.length ≤ 1000000 := by simp [takenF, ackF]; omega
        cases xr with
        | false =>
          have HWF := Lib.hid (show wordF s xn xw false i = takenF s xn xw i from rfl)
          go_wp2_with fail
          go_end0
          exact ⟨rfl, by rw [HWF.out]; exact HT.out.to⟩
        | true =>
          obtain ⟨ve, vw, vs, vb, hF, hS⟩ := HT.out.in_
          have HF := Lib.hid hF; have HS := Lib.hid hS; have HB := Lib.hid hF.blk; clear hF hS
          have c20 := HB.out.cell 20
          simp only [Fs.cells, List.getElem?_cons_zero, List.getElem?_cons_succ] at c20
          cases hask : (takenF s xn xw i).asked with
          | true =>
            have HWF := Lib.hid (show wordF s xn xw true i = takenF s xn xw i by unfold wordF; rw [hask]; rfl)
            rw [hask] at c20
            clear hask
            go_wp2_with fail
            go_end0
            exact ⟨rfl, by rw [HWF.out]; exact HT.out.to⟩
          | false =>
            have HWF := Lib.hid (show wordF s xn xw true i = { markF (takenF s xn xw i) with asked := true } by unfold wordF; rw [hask]; rfl)
            rw [hask] at c20
            clear hask
            go_wp2_with fail
            refine (mark_in (takenF s xn xw i) g Si _ hml HT.out.in_).mono ?_
            rintro e w7 ⟨rfl, hT⟩
            obtain ⟨S1, hT⟩ := HT.out.trans hT
            replace HT := Lib.hid hT; clear hT
            clear HF HS HB c20 x3
            obtain ⟨ve, vw, vs, vb, hF, hS⟩ := HT.out.in_
            have HF := Lib.hid hF; have HS := Lib.hid hS; have HB := Lib.hid hF.blk; clear hF hS
            have c20 := HB.out.cell 20
            have f20 := HB.out.free 20
            simp only [Fs.cells, List.getElem?_cons_zero, List.getElem?_cons_succ] at c20
            go_wp2_with fail
            go_end0
            exact ⟨rfl, by rw [HWF.out]; exact (HT.out.upd (s' := { markF (takenF s xn xw i) with asked := true }) HF.out HS.out (HB.out.set 20 _) ((Keep.refl [g] _).setCell (.inl (by simp)) _) rfl rfl rfl rfl).to⟩
end
end
section
open Go.RowKit
theorem map_ins (w : World) (es : Array MapEntry) (clock : Nat) (k : Int) (val : Value) (hf : Instr.findNow (.int .u32) (.int .u32 k) es.toList 0 = some none) (g : Nat) (hg : w.heap.size = g) :
   (Instr.mapUpdate 124 (.map (some g)) (.int .u32 k) val).run Tryz.prog (w.alloc (.map es clock)) = .ok () (w.alloc (.map (es.push { key := .int .u32 k, val := val, born := clock }) (clock + 1))) := by
  subst hg
  have hb : (w.alloc (.map es clock)).heap[w.heap.size]? = some (.map es clock) := heap_alloc_new w _
  have hc : (Instr.checkKey false 10000 41 (.int .u32 k)).run Tryz.prog (w.alloc (.map es clock)) = .ok () (w.alloc (.map es clock)) := MapKept.run_checkKey (k := .int .u32 k) Tryz.underlying41 (by simp [MapKept.IsKey]) false 9999
  have hp : ∀ (h : Array Obj) (x y : Obj), (h.push x).setIfInBounds h.size y = h.push y := by
    intro h x y
    apply Array.toList_inj.1
    simp
  simp [Instr.mapUpdate, run_underlying Tryz.underlying124, MapKept.run_getObj_map hb, hc, MapKept.run_findKey Tryz.underlying41 hf, MapKept.run_setObj_map _ hb, Result.andThen]
  show ({ w with heap := (w.heap.push _).setIfInBounds w.heap.size _ } : World) = { w with heap := w.heap.push _ }
  rw [hp]
/-- The map of the three flags. -/
def flagsOf (lo wa re : Bool) : Array MapEntry := #[{ key := .int .u32 32768, val := .bool lo, born := 0 }, { key := .int .u32 16384, val := .bool wa, born := 1 }, { key := .int .u32 8192, val := .bool re, born := 2 }]
theorem map_made (w : World) (g : Nat) (hg : w.heap.size = g) : (Instr.makeMap 124 none).run Tryz.prog w = .ok (.map (some g)) (w.alloc (.map #[] 0)) := by rw [← hg]; exact run_makeMap_plain w _
def bn (b : Bool) : Nat := if b then 1 else 0
def wordN (ch by_ nx : Nat) (x y z : Bool) : Nat := (256 + ch) * 65536 + (by_ + 128 * bn x + 64 * bn y + 32 * bn z) * 256 + nx
theorem or_nat (a b k : Nat) (hb : b < 2 ^ k) : a * 2 ^ k ||| b = a * 2 ^ k + b := by
  rw [← Nat.shiftLeft_eq, Nat.shiftLeft_add_eq_or_of_lt hb]
theorem or_u32 (a b : Nat) (ha : a < 4294967296) (hb : b < 4294967296) : bits .or .u32 (a : Int) (b : Int) = ((a ||| b : Nat) : Int) := by
  have e1 : ((a : Nat) : Int) = w32 (BitVec.ofNat 32 a) := by rw [w32_ofNat]; omega
  have e2 : ((b : Nat) : Int) = w32 (BitVec.ofNat 32 b) := by rw [w32_ofNat]; omega
  rw [e1, e2, w32_or]
  have : BitVec.ofNat 32 a ||| BitVec.ofNat 32 b = BitVec.ofNat 32 (a ||| b) := by
    apply BitVec.eq_of_toNat_eq
    simp only [BitVec.toNat_or, BitVec.toNat_ofNat]
    rw [Nat.mod_eq_of_lt (show a < 2 ^ 32 by omega), Nat.mod_eq_of_lt (show b < 2 ^ 32 by omega), Nat.mod_eq_of_lt (Nat.or_lt_two_pow (show a < 2 ^ 32 by omega) (show b < 2 ^ 32 by omega))]
  rw [this, w32_ofNat, Nat.mod_eq_of_lt]
  exact Nat.or_lt_two_pow (n := 32) (by omega) (by omega)
theorem or_mid (A b nx f : Nat) (hb : b < 256) (hf : f < 256) (hn : nx < 256) : (A * 65536 + b * 256 + nx) ||| (f * 256) = A * 65536 + (b ||| f) * 256 + nx := by
  have hbf : b ||| f < 256 := Nat.or_lt_two_pow (n := 8) hb hf
  have h1 := or_nat A (b * 256 + nx) 16 (by omega)
  have h2 := or_nat b nx 8 (by omega)
  have h3 := or_nat A ((b ||| f) * 256 + nx) 16 (by omega)
  have h4 := or_nat (b ||| f) nx 8 (by omega)
  simp only [Nat.reducePow] at h1 h2 h3 h4
  have h5 : (b * 256 ||| nx) ||| f * 256 = (b ||| f) * 256 ||| nx := by
    have : (b ||| f) * 256 = b * 256 ||| f * 256 := by
      have := Nat.shiftLeft_or_distrib (a := b) (b := f) (i := 8)
      simpa [Nat.shiftLeft_eq] using this
    rw [this, Nat.or_assoc, Nat.or_comm nx, ← Nat.or_assoc]
  rw [Nat.add_assoc, ← h1, ← h2, Nat.or_assoc, h5, h4, h3, Nat.add_assoc]
theorem or_f0 : ∀ b < 4, ∀ y z : Bool, (b + 128 * bn false + 64 * bn y + 32 * bn z) ||| 128 = b + 128 * bn true + 64 * bn y + 32 * bn z := by decide
theorem or_f1 : ∀ b < 4, ∀ y z : Bool, (b + 128 * bn y + 64 * bn false + 32 * bn z) ||| 64 = b + 128 * bn y + 64 * bn true + 32 * bn z := by decide
theorem or_f2 : ∀ b < 4, ∀ y z : Bool, (b + 128 * bn y + 64 * bn z + 32 * bn false) ||| 32 = b + 128 * bn y + 64 * bn z + 32 * bn true := by decide
theorem bn_le (b : Bool) : bn b ≤ 1 := by cases b <;> simp [bn]
theorem wordN_lt (ch by_ nx : Nat) (x y z : Bool) (h1 : ch ≤ 7) (h2 : by_ ≤ 3) (h3 : nx ≤ 255) : wordN ch by_ nx x y z < 4294967296 := by
  have := bn_le x; have := bn_le y; have := bn_le z; unfold wordN; omega
theorem flag0 (ch by_ nx : Nat) (y z : Bool) (h1 : ch ≤ 7) (h2 : by_ ≤ 3) (h3 : nx ≤ 255) : bits .or .u32 (wordN ch by_ nx false y z) 32768 = (wordN ch by_ nx true y z : Nat) := by
  have h := or_u32 (wordN ch by_ nx false y z) 32768 (wordN_lt _ _ _ _ _ _ h1 h2 h3) (by omega)
  rw [show ((32768 : Nat) : Int) = 32768 from rfl] at h
  rw [h]; congr 1
  have := bn_le y; have := bn_le z
  have e := or_mid (256 + ch) (by_ + 128 * bn false + 64 * bn y + 32 * bn z) nx 128 (by have : bn false = 0 := rfl; omega) (by omega) (by omega)
  unfold wordN
  rw [show (32768 : Nat) = 128 * 256 from rfl, e, or_f0 by_ (by omega)]
theorem flag1 (ch by_ nx : Nat) (x z : Bool) (h1 : ch ≤ 7) (h2 : by_ ≤ 3) (h3 : nx ≤ 255) : bits .or .u32 (wordN ch by_ nx x false z) 16384 = (wordN ch by_ nx x true z : Nat) := by
  have h := or_u32 (wordN ch by_ nx x false z) 16384 (wordN_lt _ _ _ _ _ _ h1 h2 h3) (by omega)
  rw [show ((16384 : Nat) : Int) = 16384 from rfl] at h
  rw [h]; congr 1
  have := bn_le x; have := bn_le z
  have e := or_mid (256 + ch) (by_ + 128 * bn x + 64 * bn false + 32 * bn z) nx 64 (by have : bn false = 0 := rfl; omega) (by omega) (by omega)
  unfold wordN
  rw [show (16384 : Nat) = 64 * 256 from rfl, e, or_f1 by_ (by omega)]
theorem flag2 (ch by_ nx : Nat) (x y : Bool) (h1 : ch ≤ 7) (h2 : by_ ≤ 3) (h3 : nx ≤ 255) : bits .or .u32 (wordN ch by_ nx x y false) 8192 = (wordN ch by_ nx x y true : Nat) := by
  have h := or_u32 (wordN ch by_ nx x y false) 8192 (wordN_lt _ _ _ _ _ _ h1 h2 h3) (by omega)
  rw [show ((8192 : Nat) : Int) = 8192 from rfl] at h
  rw [h]; congr 1
  have := bn_le x; have := bn_le y
  have e := or_mid (256 + ch) (by_ + 128 * bn x + 64 * bn y + 32 * bn false) nx 32 (by have : bn false = 0 := rfl; omega) (by omega) (by omega)
  unfold wordN
  rw [show (8192 : Nat) = 32 * 256 from rfl, e, or_f2 by_ (by omega)]
set_option maxRecDepth 100000 in
theorem or_base (ch by_ nx : Nat) (h1 : ch ≤ 7) (h2 : by_ ≤ 3) (h3 : nx ≤ 255) : bits .or .u32 (bits .or .u32 (bits .or .u32 16777216 ((ch : Int) * 65536)) ((by_ : Int) * 256)) (nx : Int) = (wordN ch by_ nx false false false : Nat) := by
  have a1 := or_u32 16777216 (ch * 65536) (by omega) (by omega)
  have b1 := or_nat 1 (ch * 65536) 24 (by omega)
  simp only [Nat.reducePow, Nat.one_mul] at b1
  rw [b1, show (((16777216 : Nat)) : Int) = 16777216 from rfl, show ((ch * 65536 : Nat) : Int) = (ch : Int) * 65536 by simp] at a1
  have a2 := or_u32 (16777216 + ch * 65536) (by_ * 256) (by omega) (by omega)
  have b2 := or_nat (256 + ch) (by_ * 256) 16 (by omega)
  simp only [Nat.reducePow] at b2
  rw [show 16777216 + ch * 65536 = (256 + ch) * 65536 by omega, b2, show ((by_ * 256 : Nat) : Int) = (by_ : Int) * 256 by simp] at a2
  have a3 := or_u32 ((256 + ch) * 65536 + by_ * 256) nx (by omega) (by omega)
  have b3 := or_nat ((256 + ch) * 256 + by_) nx 8 (by omega)
  simp only [Nat.reducePow] at b3
  rw [show (256 + ch) * 65536 + by_ * 256 = ((256 + ch) * 256 + by_) * 256 by omega, b3] at a3
  rw [a1, show ((16777216 + ch * 65536 : Nat) : Int) = (((256 + ch) * 65536 : Nat) : Int) by omega, a2, show (((256 + ch) * 65536 + by_ * 256 : Nat) : Int) = ((((256 + ch) * 256 + by_) * 256 : Nat) : Int) by omega, a3]
  congr 1
  simp only [wordN, bn]
  simp; omega
/-- The iterator's world. -/
def It (w wr : World) (es : Array MapEntry) (seen : Array Nat) : Prop := Below w.heap.size w wr ∧ w.heap.size + 2 < wr.heap.size ∧ wr.heap[w.heap.size + 2]? = some (.mapIter (some (w.heap.size + 1)) 3 seen 3) ∧ wr.heap[w.heap.size + 1]? = some (.map es 3)
theorem It.drew {w wr : World} {es : Array MapEntry} {seen : Array Nat} (h : It w wr es seen) : It w wr.drew es seen := ⟨h.1.drew, h.2.1, h.2.2.1, h.2.2.2⟩
theorem It.set {w wr : World} {es : Array MapEntry} {seen : Array Nat} (h : It w wr es seen) (s' : Array Nat) : It w (Go.ChangeMaps.setBlock wr (w.heap.size + 2) (.mapIter (some (w.heap.size + 1)) 3 s' 3)) es s' := by
  obtain ⟨h1, h2, h3, h4⟩ := h
  refine ⟨⟨h1.os, h1.tape, h1.output, ?_, ?_⟩, ?_, ?_, ?_⟩
  · show w.heap.size ≤ (wr.heap.setIfInBounds _ _).size
    simpa using h1.size
  · intro k hk
    show (wr.heap.setIfInBounds _ _)[k]? = _
    rw [Array.getElem?_setIfInBounds_ne (by omega)]
    exact h1.block k hk
  · show _ < (wr.heap.setIfInBounds _ _).size
    simpa using h2
  · show (wr.heap.setIfInBounds _ _)[w.heap.size + 2]? = _
    rw [Array.getElem?_setIfInBounds_self_of_lt h2]
  · show (wr.heap.setIfInBounds _ _)[w.heap.size + 1]? = _
    rw [Array.getElem?_setIfInBounds_ne (by omega)]
    exact h4
theorem It.seen {w wr : World} {es : Array MapEntry} {seen : Array Nat} (h : It w wr es seen) : wr.iterSeen (w.heap.size + 2) = seen := by
  unfold World.iterSeen; rw [h.2.2.1]
theorem flags_left (lo wa re : Bool) (seen : Array Nat) (e : MapEntry) (he : e ∈ (leftOf (flagsOf lo wa re) seen).toList) :
    (e = { key := .int .u32 32768, val := .bool lo, born := 0 } ∧ seen.contains 0 = false) ∨ (e = { key := .int .u32 16384, val := .bool wa, born := 1 } ∧ seen.contains 1 = false) ∨ (e = { key := .int .u32 8192, val := .bool re, born := 2 } ∧ seen.contains 2 = false) := by
  obtain ⟨h1, h2⟩ := mem_left he
  simp only [flagsOf, List.mem_cons, List.not_mem_nil, or_false] at h1
  rcases h1 with rfl | rfl | rfl
  · exact .inl ⟨rfl, h2⟩
  · exact .inr (.inl ⟨rfl, h2⟩)
  · exact .inr (.inr ⟨rfl, h2⟩)
theorem flags_none (lo wa re : Bool) (seen : Array Nat) (h : (leftOf (flagsOf lo wa re) seen).size = 0) : seen.contains 0 = true ∧ seen.contains 1 = true ∧ seen.contains 2 = true := by
  have h0 : leftOf (flagsOf lo wa re) seen = #[] := Array.eq_empty_of_size_eq_zero h
  unfold leftOf at h0
  rw [Array.filter_eq_empty_iff] at h0
  simp only [flagsOf] at h0
  refine ⟨?_, ?_, ?_⟩
  · simpa using h0 { key := .int .u32 32768, val := .bool lo, born := 0 } (by simp)
  · simpa using h0 { key := .int .u32 16384, val := .bool wa, born := 1 } (by simp)
  · simpa using h0 { key := .int .u32 8192, val := .bool re, born := 2 } (by simp)
theorem seen_push (seen : Array Nat) (b k : Nat) : (seen.push b).contains k = (seen.contains k || k == b) := contains_push seen b k
set_option maxHeartbeats 4000000 in
set_option maxRecDepth 100000 in
theorem PutWord_ok (ch by_ nx : Nat) (lo wa re : Bool) (w : World) (h1 : ch ≤ 7) (h2 : by_ ≤ 3) (h3 : nx ≤ 255) : Calls Tryz.prog 28 #[(Wd.mk ch lo wa re by_ nx).val] w fun e w' => e = .returned (.tuple #[.int .u32 (wordN ch by_ nx lo wa re : Nat), .int .i64 0]) ∧ Below w.heap.size w w' := by
  have d1 : decide ((ch : Int) < 0) = false := by simp
  have d2 : decide (8 ≤ (ch : Int)) = false := by simp; omega
  have d3 : decide ((by_ : Int) < 0) = false := by simp
  have d4 : decide (3 < (by_ : Int)) = false := by simp; omega
  have d5 : decide ((nx : Int) < 0) = false := by simp
  have d6 : decide (255 < (nx : Int)) = false := by simp; omega
  have hsz : (w.alloc (.cells #[.int .i64 ch, .bool lo, .bool wa, .bool re, .int .i64 by_, .int .i64 nx] 78)).heap.size = w.heap.size + 1 := by simp
  have m0 := map_made (w.alloc (.cells #[.int .i64 ch, .bool lo, .bool wa, .bool re, .int .i64 by_, .int .i64 nx] 78)) (w.heap.size + 1) hsz
  have m1 := map_ins (w.alloc (.cells #[.int .i64 ch, .bool lo, .bool wa, .bool re, .int .i64 by_, .int .i64 nx] 78)) #[] 0 32768 (.bool lo) rfl (w.heap.size + 1) hsz
  have m2 := map_ins (w.alloc (.cells #[.int .i64 ch, .bool lo, .bool wa, .bool re, .int .i64 by_, .int .i64 nx] 78)) #[{ key := .int .u32 32768, val := .bool lo, born := 0 }] 1 16384 (.bool wa) (by kernel_rfl) (w.heap.size + 1) hsz
  have m3 := map_ins (w.alloc (.cells #[.int .i64 ch, .bool lo, .bool wa, .bool re, .int .i64 by_, .int .i64 nx] 78)) #[{ key := .int .u32 32768, val := .bool lo, born := 0 }, { key := .int .u32 16384, val := .bool wa, born := 1 }] 2 8192 (.bool re) (by kernel_rfl) (w.heap.size + 1) hsz
  simp only [List.push_toArray, List.cons_append, List.nil_append, Nat.reduceAdd] at m1 m2 m3
  obtain ⟨V, hV⟩ : ∃ V, V = (w.alloc (.cells #[.int .i64 ch, .bool lo, .bool wa, .bool re, .int .i64 by_, .int .i64 nx] 78)).alloc (.map (flagsOf lo wa re) 3) := ⟨_, rfl⟩
  have hVs : V.heap.size = w.heap.size + 2 := by rw [hV]; simp
  have hVb : V.heap[w.heap.size + 1]? = some (.map (flagsOf lo wa re) 3) := by rw [hV, ← hsz]; exact heap_alloc_new _ _
  have hVL : Below w.heap.size w V := by rw [hV]; exact ((Below.refl _ _).alloc (Nat.le_refl _) _).alloc (by simp) _
  unfold flagsOf at hV
  rw [← hV] at m3
  have hr := run_range_map (P := Tryz.prog) V 124 41 4 (w.heap.size + 1) (flagsOf lo wa re) 3 Tryz.underlying124 hVb
  rw [hVs] at hr
  have HOB := or_base ch by_ nx h1 h2 h3
  have HVS := Lib.hid hVs; have HVB := Lib.hid hVb; have HVL := Lib.hid hVL
  clear hsz hV hVs hVb hVL
  simp only [Wd.val]
  go_enter Tryz.func28, Tryz.ntmps28
  go_wp2_with fail
  clear m0 m1 m2 m3 hr HOB d1 d2 d3 d4 d5 d6
  go_loopw [4] (fun s wr => ∃ seen : Array Nat, It w wr (flagsOf lo wa re) seen ∧ s = .int .u32 (wordN ch by_ nx (seen.contains 0 && lo) (seen.contains 1 && wa) (seen.contains 2 && re) : Nat)) (fun _ wr => (leftOf (flagsOf lo wa re) (wr.iterSeen (w.heap.size + 2))).size)
  case atStart =>
    refine ⟨#[], ⟨HVL.out.alloc (by rw [HVS.out]; omega) _, by simp [HVS.out], ?_, ?_⟩, by simp⟩
    · rw [← HVS.out]; exact heap_alloc_new _ _
    · rw [Below.heap_alloc V _ (w.heap.size + 1) (by rw [HVS.out]; omega)]; exact HVB.out
  case round =>
    obtain ⟨seen, hI, rfl⟩ := hrel
    have law := run_next_at (P := Tryz.prog) wr 0 (w.heap.size + 2) (w.heap.size + 1) 3 3 seen (flagsOf lo wa re) 3 hI.2.2.1 hI.2.2.2 (by simp [flagsOf]) (Nat.le_refl _)
    have HI := Lib.hid hI; clear hI
    rcases law with ⟨h0, hrun⟩ | ⟨e, he, w2, hal2, hrun⟩
    · have hnx : ∀ ty, (Instr.next (.pointer (some ⟨w.heap.size + 2, 0, none⟩)) false ty).run Tryz.prog wr = _ := fun _ => hrun
      clear hrun
      obtain ⟨s0, s1, s2⟩ := flags_none _ _ _ _ h0
      rw [s0, s1, s2]
      clear s0 s1 s2 h0
      go_wp2_with fail
      go_ret2
      exact ⟨by simp, HI.out.1⟩
    · have hI2 : It w w2 (flagsOf lo wa re) seen := by rcases hal2 with rfl | rfl; exact HI.out; exact HI.out.drew
      have hI3 := hI2.set (seen.push e.born)
      have hen := run_entry_at (P := Tryz.prog) _ (w.heap.size + 2) (w.heap.size + 1) 3 seen (flagsOf lo wa re) 3 e hI3.2.2.1 hI3.2.2.2 (mem_left he).1 (by simp [flagsOf])
      have hsh := left_shrinks (flagsOf lo wa re) seen e he
      obtain ⟨w3, hw3⟩ : ∃ w3, w3 = Go.ChangeMaps.setBlock w2 (w.heap.size + 2) (.mapIter (some (w.heap.size + 1)) 3 (seen.push e.born) 3) := ⟨_, rfl⟩
      rw [← hw3] at hI3 hrun hen
      clear hw3 hal2 hI2
      have HI3 := Lib.hid hI3; clear hI3
      have HSH := Lib.hid hsh; clear hsh
      rcases flags_left _ _ _ _ _ he with ⟨rfl, hs⟩ | ⟨rfl, hs⟩ | ⟨rfl, hs⟩
      · have hnx : ∀ ty, (Instr.next (.pointer (some ⟨w.heap.size + 2, 0, none⟩)) false ty).run Tryz.prog wr = _ := fun _ => hrun
        clear hrun he
        have p0 := seen_push seen 0 0
        have p1 := seen_push seen 0 1
        have p2 := seen_push seen 0 2
        simp only [Nat.reduceBEq, Bool.or_false, Bool.or_true] at p0 p1 p2
        obtain ⟨t0, ht0⟩ : ∃ t0, t0 = (seen.contains 1 && wa) := ⟨_, rfl⟩
        obtain ⟨t1, ht1⟩ : ∃ t1, t1 = (seen.contains 2 && re) := ⟨_, rfl⟩
        have HP0 := Lib.hid p0; have HP1 := Lib.hid p1; have HP2 := Lib.hid p2; clear p0 p1 p2
        rw [hs, ← ht0, ← ht1]
        have HT0 := Lib.hid ht0; have HT1 := Lib.hid ht1; clear ht0 ht1 hs
        rw [Bool.false_and]
        have hfl := flag0 ch by_ nx t0 t1 h1 h2 h3
        cases lo
        all_goals
          go_wp2_with fail
          go_roundw
          case rel =>
            refine ⟨seen.push 0, HI3.out, ?_⟩
            rw [HP0.out, HP1.out, HP2.out]
            simp only [Bool.true_and, Bool.and_true, Bool.and_false]
            rw [← HT0.out, ← HT1.out]
          case measure =>
            rw [HI3.out.seen, HI.out.seen]
            exact HSH.out
      · have hnx : ∀ ty, (Instr.next (.pointer (some ⟨w.heap.size + 2, 0, none⟩)) false ty).run Tryz.prog wr = _ := fun _ => hrun
        clear hrun he
        have p0 := seen_push seen 1 0
        have p1 := seen_push seen 1 1
        have p2 := seen_push seen 1 2
        simp only [Nat.reduceBEq, Bool.or_false, Bool.or_true] at p0 p1 p2
        obtain ⟨t0, ht0⟩ : ∃ t0, t0 = (seen.contains 0 && lo) := ⟨_, rfl⟩
        obtain ⟨t1, ht1⟩ : ∃ t1, t1 = (seen.contains 2 && re) := ⟨_, rfl⟩
        have HP0 := Lib.hid p0; have HP1 := Lib.hid p1; have HP2 := Lib.hid p2; clear p0 p1 p2
        rw [hs, ← ht0, ← ht1]
        have HT0 := Lib.hid ht0; have HT1 := Lib.hid ht1; clear ht0 ht1 hs
        rw [Bool.false_and]
        have hfl := flag1 ch by_ nx t0 t1 h1 h2 h3
        cases wa
        all_goals
          go_wp2_with fail
          go_roundw
          case rel =>
            refine ⟨seen.push 1, HI3.out, ?_⟩
            rw [HP0.out, HP1.out, HP2.out]
            simp only [Bool.true_and, Bool.and_true, Bool.and_false]
            rw [← HT0.out, ← HT1.out]
          case measure =>
            rw [HI3.out.seen, HI.out.seen]
            exact HSH.out
      · have hnx : ∀ ty, (Instr.next (.pointer (some ⟨w.heap.size + 2, 0, none⟩)) false ty).run Tryz.prog wr = _ := fun _ => hrun
        clear hrun he
        have p0 := seen_push seen 2 0
        have p1 := seen_push seen 2 1
        have p2 := seen_push seen 2 2
        simp only [Nat.reduceBEq, Bool.or_false, Bool.or_true] at p0 p1 p2
        obtain ⟨t0, ht0⟩ : ∃ t0, t0 = (seen.contains 0 && lo) := ⟨_, rfl⟩
        obtain ⟨t1, ht1⟩ : ∃ t1, t1 = (seen.contains 1 && wa) := ⟨_, rfl⟩
        have HP0 := Lib.hid p0; have HP1 := Lib.hid p1; have HP2 := Lib.hid p2; clear p0 p1 p2
        rw [hs, ← ht0, ← ht1]
        have HT0 := Lib.hid ht0; have HT1 := Lib.hid ht1; clear ht0 ht1 hs
        rw [Bool.false_and]
        have hfl := flag2 ch by_ nx t0 t1 h1 h2 h3
        cases re
        all_goals
          go_wp2_with fail
          go_roundw
          case rel =>
            refine ⟨seen.push 2, HI3.out, ?_⟩
            rw [HP0.out, HP1.out, HP2.out]
            simp only [Bool.true_and, Bool.and_true, Bool.and_false]
            rw [← HT0.out, ← HT1.out]
          case measure =>
            rw [HI3.out.seen, HI.out.seen]
            exact HSH.out
end
section
open Go.RowKit
end
section
open Go.RowKit
def rdW (n : Nat) : Wd := ⟨(n / 65536 % 8 : Nat), n.testBit 15, n.testBit 14, n.testBit 13, (n / 256 % 4 : Nat), (n % 256 : Nat)⟩
def rdN (n : Nat) : Nat := wordN (n / 65536 % 8) (n / 256 % 4) (n % 256) (n.testBit 15) (n.testBit 14) (n.testBit 13)
def readV (n : Nat) : Value := if rdN n = n then .tuple #[(rdW n).val, .int .i64 0] else .tuple #[Wd.zero.val, .int .i64 6]
theorem and_u32 (a b : Nat) (ha : a < 4294967296) (hb : b < 4294967296) : bits .and .u32 (a : Int) (b : Int) = ((a &&& b : Nat) : Int) := by
  have e1 : ((a : Nat) : Int) = w32 (BitVec.ofNat 32 a) := by rw [w32_ofNat]; omega
  have e2 : ((b : Nat) : Int) = w32 (BitVec.ofNat 32 b) := by rw [w32_ofNat]; omega
  rw [e1, e2, w32_and]
  have : BitVec.ofNat 32 a &&& BitVec.ofNat 32 b = BitVec.ofNat 32 (a &&& b) := by
    apply BitVec.eq_of_toNat_eq
    simp only [BitVec.toNat_and, BitVec.toNat_ofNat]
    rw [Nat.mod_eq_of_lt (show a < 2 ^ 32 by omega), Nat.mod_eq_of_lt (show b < 2 ^ 32 by omega), Nat.mod_eq_of_lt (Nat.and_lt_two_pow a (show b < 2 ^ 32 by omega))]
  rw [this, w32_ofNat, Nat.mod_eq_of_lt]
  exact Nat.and_lt_two_pow (n := 32) a (by omega)
theorem and_mask (a k : Nat) (ha : a < 4294967296) (hk : k ≤ 31) : bits .and .u32 (a : Int) ((2 ^ k - 1 : Nat) : Int) = ((a % 2 ^ k : Nat) : Int) := by
  have : 2 ^ k ≤ 2 ^ 31 := Nat.pow_le_pow_right (by omega) hk
  rw [and_u32 a _ ha (by omega), Nat.and_two_pow_sub_one_eq_mod]
theorem and_bit (a k : Nat) (ha : a < 4294967296) (hk : k ≤ 31) : (bits .and .u32 (a : Int) ((2 ^ k : Nat) : Int) != 0) = a.testBit k := by
  have : 2 ^ k ≤ 2 ^ 31 := Nat.pow_le_pow_right (by omega) hk
  rw [and_u32 a _ ha (by omega)]
  have h2 : a &&& 2 ^ k = 2 ^ k * (a.testBit k).toNat := by
    apply Nat.eq_of_testBit_eq
    intro i
    rw [Nat.testBit_and, Nat.testBit_two_pow]
    cases h : a.testBit k
    · by_cases e : k = i
      · subst e; simp [h]
      · simp [e]
    · by_cases e : k = i
      · subst e; simp [h, Nat.testBit_two_pow_self]
      · simp [e, Nat.testBit_two_pow]
  rw [h2]
  cases h : a.testBit k
  · simp
  · have := Nat.two_pow_pos k
    have h3 : ((2 ^ k : Nat) : Int) ≠ 0 := by omega
    rw [show (true : Bool).toNat = 1 from rfl, Nat.mul_one]
    exact bne_iff_ne.2 h3
theorem bit_div (n k : Nat) : n.testBit k = (n / 2 ^ k % 2 == 1) := by
  rw [Nat.testBit_eq_decide_div_mod_eq]
  rw [Bool.eq_iff_iff]; simp
set_option maxHeartbeats 4000000 in
set_option maxRecDepth 100000 in
theorem ReadWord_any (n : Nat) (w : World) (hn : n < 4294967296) : Calls Tryz.prog 49 #[.int .u32 n] w fun e w' => e = .returned (readV n) ∧ Below w.heap.size w w' := by
  obtain ⟨c1, hc1⟩ : ∃ c1, c1 = n / 65536 % 8 := ⟨_, rfl⟩
  obtain ⟨b1, hb1⟩ : ∃ b1, b1 = n / 256 % 4 := ⟨_, rfl⟩
  obtain ⟨n1, hn1⟩ : ∃ n1, n1 = n % 256 := ⟨_, rfl⟩
  obtain ⟨l1, hl1⟩ : ∃ l1, l1 = n.testBit 15 := ⟨_, rfl⟩
  obtain ⟨w1, hw1⟩ : ∃ w1, w1 = n.testBit 14 := ⟨_, rfl⟩
  obtain ⟨r1, hr1⟩ : ∃ r1, r1 = n.testBit 13 := ⟨_, rfl⟩
  have hc7 : c1 ≤ 7 := by omega
  have hb3 : b1 ≤ 3 := by omega
  have hn255 : n1 ≤ 255 := by omega
  obtain ⟨N, hN⟩ : ∃ N, N = wordN c1 b1 n1 l1 w1 r1 := ⟨_, rfl⟩
  have hv : readV n = if N = n then .tuple #[.agg #[.int .i64 c1, .bool l1, .bool w1, .bool r1, .int .i64 b1, .int .i64 n1], .int .i64 0] else .tuple #[Wd.zero.val, .int .i64 6] := by
    rw [hN, hc1, hb1, hn1, hl1, hw1, hr1]; rfl
  have e1 : wrap64 (bits .and .u32 ((n : Int) / 65536) 7) = (c1 : Int) := by
    have := and_mask (n / 65536) 3 (by omega) (by omega)
    simp only [Nat.reducePow, Nat.reduceSub] at this
    rw [show ((n / 65536 : Nat) : Int) = (n : Int) / 65536 by omega, show ((7 : Nat) : Int) = 7 from rfl, ← hc1] at this
    rw [this]; unfold wrap64; omega
  have e2 : (bits .and .u32 (n : Int) 32768 != 0) = l1 := by rw [hl1]; exact and_bit n 15 hn (by omega)
  have e3 : (bits .and .u32 (n : Int) 16384 != 0) = w1 := by rw [hw1]; exact and_bit n 14 hn (by omega)
  have e4 : (bits .and .u32 (n : Int) 8192 != 0) = r1 := by rw [hr1]; exact and_bit n 13 hn (by omega)
  have e5 : wrap64 (bits .and .u32 ((n : Int) / 256) 3) = (b1 : Int) := by
    have := and_mask (n / 256) 2 (by omega) (by omega)
    simp only [Nat.reducePow, Nat.reduceSub] at this
    rw [show ((n / 256 : Nat) : Int) = (n : Int) / 256 by omega, show ((3 : Nat) : Int) = 3 from rfl, ← hb1] at this
    rw [this]; unfold wrap64; omega
  have e6 : wrap64 (bits .and .u32 (n : Int) 255) = (n1 : Int) := by
    have := and_mask n 8 hn (by omega)
    simp only [Nat.reducePow, Nat.reduceSub] at this
    rw [show ((255 : Nat) : Int) = 255 from rfl, ← hn1] at this
    rw [this]; unfold wrap64; omega
  have hp := fun w => PutWord_ok c1 b1 n1 l1 w1 r1 w hc7 hb3 hn255
  simp only [Wd.val] at hp
  rw [← hN] at hp
  have HP := Lib.hid hp; have HV := Lib.hid hv
  have HE := Lib.hid (And.intro e1 (And.intro e2 (And.intro e3 (And.intro e4 (And.intro e5 e6)))))
  clear hp hv e1 e2 e3 e4 e5 e6 hN hc1 hb1 hn1 hl1 hw1 hr1
  rw [HV.out]
  have HL1 := Lib.hid (((Below.refl w.heap.size w).alloc (Nat.le_refl _) (Obj.cells Wd.zero.cells.toArray 78)).alloc (by simp) (Obj.cells #[.int .i64 c1, .bool l1, .bool w1, .bool r1, .int .i64 b1, .int .i64 n1] 78))
  have HZ := Lib.hid ((Blk.new w Wd.zero.cells 78).alloc (Obj.cells #[.int .i64 c1, .bool l1, .bool w1, .bool r1, .int .i64 b1, .int .i64 n1] 78))
  have HB := Lib.hid (Blk.new_at (w.alloc (Obj.cells Wd.zero.cells.toArray 78)) [.int .i64 c1, .bool l1, .bool w1, .bool r1, .int .i64 b1, .int .i64 n1] 78 (w.heap.size + 1) (by simp))
  by_cases hNn : N = n
  · rw [if_pos hNn]
    have hb0 : ((N : Int) != (n : Int)) = false := by rw [hNn]; simp
    clear hNn
    go_enter Tryz.func49, Tryz.ntmps49
    go_wp2_with fail
    rw [HE.out.1, HE.out.2.1, HE.out.2.2.1, HE.out.2.2.2.1, HE.out.2.2.2.2.1, HE.out.2.2.2.2.2]
    refine (HP.out _).mono ?_
    rintro e v1 ⟨rfl, hL1⟩
    have HL2 := Lib.hid (HL1.out.trans (hL1.mono HL1.out.size))
    have HZ1 := Lib.hid (HZ.out.below hL1 (by simp; omega))
    have HB1 := Lib.hid (HB.out.below hL1 (by simp)); clear hL1
    have z0 := HZ1.out.cell 0
    have z1 := HZ1.out.cell 1
    have z2 := HZ1.out.cell 2
    have z3 := HZ1.out.cell 3
    have z4 := HZ1.out.cell 4
    have z5 := HZ1.out.cell 5
    simp only [Wd.cells, Wd.zero, List.getElem?_cons_zero, List.getElem?_cons_succ] at z0 z1 z2 z3 z4 z5
    have f0 := HZ1.out.free 0
    have f1 := HZ1.out.free 1
    have f2 := HZ1.out.free 2
    have f3 := HZ1.out.free 3
    have f4 := HZ1.out.free 4
    have f5 := HZ1.out.free 5
    have q0 := HB1.out.cell 0
    have q1 := HB1.out.cell 1
    have q2 := HB1.out.cell 2
    have q3 := HB1.out.cell 3
    have q4 := HB1.out.cell 4
    have q5 := HB1.out.cell 5
    simp only [List.getElem?_cons_zero, List.getElem?_cons_succ] at q0 q1 q2 q3 q4 q5
    go_wp2_with fail
    refine ret_cell_tmp rfl w.heap.size 78 [.int .i64 c1, .bool l1, .bool w1, .bool r1, .int .i64 b1, .int .i64 n1] rfl ((((((HZ1.out.set 0 _).set 1 _).set 2 _).set 3 _).set 4 _).set 5 _) Tryz.underlying78 rfl (by kernel_rfl) rfl ?_
    exact ⟨rfl, ((((((HL2.out.setCell (Nat.le_refl _) _).setCell (Nat.le_refl _) _).setCell (Nat.le_refl _) _).setCell (Nat.le_refl _) _).setCell (Nat.le_refl _) _).setCell (Nat.le_refl _) _)⟩
  · rw [if_neg hNn]
    have hb0 : ((N : Int) != (n : Int)) = true := by
      simp only [bne_iff_ne, ne_eq]; omega
    clear hNn
    go_enter Tryz.func49, Tryz.ntmps49
    go_wp2_with fail
    rw [HE.out.1, HE.out.2.1, HE.out.2.2.1, HE.out.2.2.2.1, HE.out.2.2.2.2.1, HE.out.2.2.2.2.2]
    refine (HP.out _).mono ?_
    rintro e v1 ⟨rfl, hL1⟩
    have HL2 := Lib.hid (HL1.out.trans (hL1.mono HL1.out.size))
    have HZ1 := Lib.hid (HZ.out.below hL1 (by simp; omega))
    have HB1 := Lib.hid (HB.out.below hL1 (by simp)); clear hL1
    have z0 := HZ1.out.cell 0
    have z1 := HZ1.out.cell 1
    have z2 := HZ1.out.cell 2
    have z3 := HZ1.out.cell 3
    have z4 := HZ1.out.cell 4
    have z5 := HZ1.out.cell 5
    simp only [Wd.cells, Wd.zero, List.getElem?_cons_zero, List.getElem?_cons_succ] at z0 z1 z2 z3 z4 z5
    have f0 := HZ1.out.free 0
    have f1 := HZ1.out.free 1
    have f2 := HZ1.out.free 2
    have f3 := HZ1.out.free 3
    have f4 := HZ1.out.free 4
    have f5 := HZ1.out.free 5
    have q0 := HB1.out.cell 0
    have q1 := HB1.out.cell 1
    have q2 := HB1.out.cell 2
    have q3 := HB1.out.cell 3
    have q4 := HB1.out.cell 4
    have q5 := HB1.out.cell 5
    simp only [List.getElem?_cons_zero, List.getElem?_cons_succ] at q0 q1 q2 q3 q4 q5
    go_wp2_with fail
    refine ret_cell_tmp rfl w.heap.size 78 Wd.zero.cells rfl ((((((HZ1.out.set 0 _).set 1 _).set 2 _).set 3 _).set 4 _).set 5 _) Tryz.underlying78 rfl (by kernel_rfl) rfl ?_
    exact ⟨rfl, ((((((HL2.out.setCell (Nat.le_refl _) _).setCell (Nat.le_refl _) _).setCell (Nat.le_refl _) _).setCell (Nat.le_refl _) _).setCell (Nat.le_refl _) _).setCell (Nat.le_refl _) _)⟩
end
end Go.Proofs.YtgopighmifpefaaGreatDoor
