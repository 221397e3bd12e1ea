/- What is proved here: what the automaton on the ground does with a control word while the service is ready. -/
import Derived.Test.YtbncejmohhejlaaFo12
import Derived.Test.YtbncejmohhejlaaF4
set_option linter.unusedVariables false
set_option linter.unusedSimpArgs false
namespace Go.Proofs.Ytbncejmohhejlaa
open Go.RowKit
def ackEv (u : Ut) : Ev := ⟨2, u.id, 0⟩
section
variable (s : Fs) (g : Nat) (S : List Nat) (w : World)
set_option maxHeartbeats 4000000 in
set_option maxRecDepth 100000 in
theorem proceed_lock (xc xb xn : Int) (xw xr : Bool) (he : s.events.length ≤ 1000000) (hSl : ∀ i ∈ S, i < w.heap.size) (h : FopIn w g S s) :
    Calls Try.prog 46 #[.pointer (some ⟨g, 0, none⟩), .agg #[.int .i64 xc, .bool true, .bool xw, .bool xr, .int .i64 xb, .int .i64 xn]] w fun e w' => e = .returned (.tuple #[]) ∧ FopTo w w' g S (alertF s 2) := by
  have HT := Lib.hid ((Pt.refl h).keepB ((Below.refl w.heap.size w).alloc (Nat.le_refl _) (Obj.cells #[.int .i64 xc, .bool true, .bool xw, .bool xr, .int .i64 xb, .int .i64 xn] 35)))
  have HX := Lib.hid (Blk.new w [.int .i64 xc, .bool true, .bool xw, .bool xr, .int .i64 xb, .int .i64 xn] 35)
  have HSL := Lib.hid hSl
  clear h hSl
  go_enter Try.func46, Try.ntmps46
  go_upto_region 1 with fail
  refine gen_world (fun W => Pt w W g S S s ∧ Blk W w.heap.size [.int .i64 xc, .bool true, .bool xw, .bool xr, .int .i64 xb, .int .i64 xn] 35) ⟨HT.out, HX.out⟩ ?_
  clear HT HX
  rintro w1 ⟨hT, hX⟩
  have HT := Lib.hid hT; have HX := Lib.hid hX; clear hT hX
  have HN0 := Lib.hid (fun (h : w.heap.size ∈ S) => (by have := HSL.out _ h; omega : False))
  have x0 := HX.out.cell 0
  have x1 := HX.out.cell 1
  have x2 := HX.out.cell 2
  have x3 := HX.out.cell 3
  have x4 := HX.out.cell 4
  have x5 := HX.out.cell 5
  simp only [List.getElem?_cons_zero, List.getElem?_cons_succ] at x0 x1 x2 x3 x4 x5
  go_wp2_with fail
  refine (alert_in 2 s g S _ he HT.out.in_).mono ?_
  rintro e w2 ⟨rfl, hT⟩
  obtain ⟨S1, hT⟩ := HT.out.trans hT
  replace HT := Lib.hid hT; clear hT
  go_wp2_with fail
  exact bodyPost_ret (v := .tuple #[]) (by simp [results, Try.results46, go_sem]) rfl ⟨rfl, HT.out.to⟩
set_option maxHeartbeats 4000000 in
set_option maxRecDepth 100000 in
theorem proceed_bad (xc xb xn : Int) (xw xr : Bool) (he : s.events.length ≤ 1000000) (hb0 : 0 ≤ s.base) (hb1 : s.base ≤ 255) (hn0 : 0 ≤ xn) (hn1 : xn ≤ 255) (hk : (s.sent.length : Int) < (xn - s.base) % 256) (hSl : ∀ i ∈ S, i < w.heap.size) (h : FopIn w g S s) :
    Calls Try.prog 46 #[.pointer (some ⟨g, 0, none⟩), .agg #[.int .i64 xc, .bool false, .bool xw, .bool xr, .int .i64 xb, .int .i64 xn]] w fun e w' => e = .returned (.tuple #[]) ∧ FopTo w w' g S (alertF s 3) := by
  have hb := and255' (xn - s.base) (by omega) (by omega)
  have hw1 : IntKind.i64.wrap (xn - s.base) = xn - s.base := IntWalk.i64_in _ (by omega)
  have HT := Lib.hid ((Pt.refl h).keepB ((Below.refl w.heap.size w).alloc (Nat.le_refl _) (Obj.cells #[.int .i64 xc, .bool false, .bool xw, .bool xr, .int .i64 xb, .int .i64 xn] 35)))
  have HX := Lib.hid (Blk.new w [.int .i64 xc, .bool false, .bool xw, .bool xr, .int .i64 xb, .int .i64 xn] 35)
  have HSL := Lib.hid hSl
  clear h hSl
  go_enter Try.func46, Try.ntmps46
  go_upto_region 1 with fail
  refine gen_world (fun W => Pt w W g S S s ∧ Blk W w.heap.size [.int .i64 xc, .bool false, .bool xw, .bool xr, .int .i64 xb, .int .i64 xn] 35) ⟨HT.out, HX.out⟩ ?_
  clear HT HX
  rintro w1 ⟨hT, hX⟩
  have HT := Lib.hid hT; have HX := Lib.hid hX; clear hT hX
  have HN0 := Lib.hid (fun (h : w.heap.size ∈ S) => (by have := HSL.out _ h; omega : False))
  have x0 := HX.out.cell 0
  have x1 := HX.out.cell 1
  have x2 := HX.out.cell 2
  have x3 := HX.out.cell 3
  have x4 := HX.out.cell 4
  have x5 := HX.out.cell 5
  simp only [List.getElem?_cons_zero, List.getElem?_cons_succ] at x0 x1 x2 x3 x4 x5
  go_upto_region 3 with fail
  obtain ⟨ve, vw, vs, vb, hF, hS⟩ := HT.out.in_
  have HF := Lib.hid hF; have HS := Lib.hid hS; have HB := Lib.hid hF.blk; clear hF hS
  have c9 := HB.out.cell 9
  simp only [Fs.cells, List.getElem?_cons_zero, List.getElem?_cons_succ] at c9
  go_quiet (fail)
  clear c9 x0 x1 x2 x3 x4 x5
  refine post_any (fun W => Pt w W g S S s ∧ Blk W w.heap.size [.int .i64 xc, .bool false, .bool xw, .bool xr, .int .i64 xb, .int .i64 xn] 35) ⟨HT.out.drewN _, HX.out.drewN _⟩ ?_
  clear HT HX HF HS HB
  rintro w2 ⟨hT, hX⟩
  have HT := Lib.hid hT; have HX := Lib.hid hX; clear hT hX
  go_wp2_with fail
  refine (lenS_in s g S _ HT.out.in_).mono ?_
  rintro e _ ⟨rfl, rfl⟩
  go_wp2_with fail
  refine (alert_in 3 s g S _ he HT.out.in_).mono ?_
  rintro e w3 ⟨rfl, hT⟩
  obtain ⟨S1, hT⟩ := HT.out.trans hT
  replace HT := Lib.hid hT; clear hT
  go_wp2_with fail
  exact bodyPost_ret (v := .tuple #[]) (by simp [results, Try.results46, go_sem]) rfl ⟨rfl, HT.out.to⟩
def ackF (s : Fs) (k : Nat) : Fs := { (if 0 < k then { s with tries := 1, clock := s.timeout, asked := false } else s : Fs) with sent := s.sent.drop k, events := s.events ++ (s.sent.take k).map ackEv }
def takenF (s : Fs) (xn : Int) (xw : Bool) (k : Nat) : Fs := { ackF s k with base := xn, held := xw }
def wordF (s : Fs) (xn : Int) (xw xr : Bool) (k : Nat) : Fs := if xr && !(takenF s xn xw k).asked then { markF (takenF s xn xw k) with asked := true } else takenF s xn xw k
set_option maxHeartbeats 8000000 in
set_option maxRecDepth 100000 in
theorem proceed_ok (xc xb xn : Int) (xw xr : Bool) (kn : Nat) (he : s.events.length ≤ 1000) (hsl : s.sent.length ≤ 127) (hb0 : 0 ≤ s.base) (hb1 : s.base ≤ 255) (hn0 : 0 ≤ xn) (hn1 : xn ≤ 255) (hkc : (xn - s.base) % 256 = (kn : Int)) (hk : kn ≤ s.sent.length) (hSl : ∀ i ∈ S, i < w.heap.size) (h : FopIn w g S s) :
    Calls Try.prog 46 #[.pointer (some ⟨g, 0, none⟩), .agg #[.int .i64 xc, .bool false, .bool xw, .bool xr, .int .i64 xb, .int .i64 xn]] w fun e w' => e = .returned (.tuple #[]) ∧ FopTo w w' g S (wordF s xn xw xr kn) := by
  have hb := and255' (xn - s.base) (by omega) (by omega)
  rw [hkc] at hb
  have hw1 : IntKind.i64.wrap (xn - s.base) = xn - s.base := IntWalk.i64_in _ (by omega)
  have hk2 : ¬ ((s.sent.length : Int) < (kn : Int)) := by omega
  have hk3 : ¬ (s.sent.length < kn) := by omega
  clear hkc
  have HT := Lib.hid ((Pt.refl h).keepB ((Below.refl w.heap.size w).alloc (Nat.le_refl _) (Obj.cells #[.int .i64 xc, .bool false, .bool xw, .bool xr, .int .i64 xb, .int .i64 xn] 35)))
  have HX := Lib.hid (Blk.new w [.int .i64 xc, .bool false, .bool xw, .bool xr, .int .i64 xb, .int .i64 xn] 35)
  have HSL := Lib.hid hSl
  clear h hSl
  go_enter Try.func46, Try.ntmps46
  go_upto_region 1 with fail
  refine gen_world (fun W => Pt w W g S S s ∧ Blk W w.heap.size [.int .i64 xc, .bool false, .bool xw, .bool xr, .int .i64 xb, .int .i64 xn] 35) ⟨HT.out, HX.out⟩ ?_
  clear HT HX
  rintro w1 ⟨hT, hX⟩
  have HT := Lib.hid hT; have HX := Lib.hid hX; clear hT hX
  have HN0 := Lib.hid (fun (h : w.heap.size ∈ S) => (by have := HSL.out _ h; omega : False))
  have x0 := HX.out.cell 0
  have x1 := HX.out.cell 1
  have x2 := HX.out.cell 2
  have x3 := HX.out.cell 3
  have x4 := HX.out.cell 4
  have x5 := HX.out.cell 5
  simp only [List.getElem?_cons_zero, List.getElem?_cons_succ] at x0 x1 x2 x3 x4 x5
  go_upto_region 3 with fail
  obtain ⟨ve, vw, vs, vb, hF, hS⟩ := HT.out.in_
  have HF := Lib.hid hF; have HS := Lib.hid hS; have HB := Lib.hid hF.blk; clear hF hS
  have c9 := HB.out.cell 9
  simp only [Fs.cells, List.getElem?_cons_zero, List.getElem?_cons_succ] at c9
  go_quiet (fail)
  clear c9 x0 x1 x2 x3 x4 x5
  refine post_any (fun W => Pt w W g S S s ∧ Blk W w.heap.size [.int .i64 xc, .bool false, .bool xw, .bool xr, .int .i64 xb, .int .i64 xn] 35) ⟨HT.out.drewN _, HX.out.drewN _⟩ ?_
  clear HT HX HF HS HB
  rintro w2 ⟨hT, hX⟩
  have HT := Lib.hid hT; have HX := Lib.hid hX; clear hT hX
  go_wp2_with fail
  refine (lenS_in s g S _ HT.out.in_).mono ?_
  rintro e _ ⟨rfl, rfl⟩
  clear hb hw1
  by_cases hz : 0 < kn
  · have hz2 : (0 : Int) < (kn : Int) := by omega
    go_wp2_with fail
    refine (again_in s g S _ HT.out.in_).mono ?_
    rintro e w3 ⟨rfl, hT⟩
    have hX1 := HX.out.lt
    replace HX := Lib.hid (HX.out.in_keep HN0.out hT)
    obtain ⟨S1, hT, hn1', hl1⟩ := HT.out.trans_far hT hX1 HN0.out
    replace HT := Lib.hid hT; have HN1 := Lib.hid hn1'; clear hT hX1 hn1'
    obtain ⟨ve, vw, vs, vb, hF, hS⟩ := HT.out.in_
    have HF := Lib.hid hF; have HS := Lib.hid hS; have HB := Lib.hid hF.blk; clear hF hS
    have c20 := HB.out.cell 20
    have f20 := HB.out.free 20
    simp only [Fs.cells, List.getElem?_cons_zero, List.getElem?_cons_succ] at c20
    go_upto_region 9 with fail
    refine gen_world (fun W => Pt w W g S S1 { s with tries := 1, clock := s.timeout, asked := false } ∧ Blk W w.heap.size [.int .i64 xc, .bool false, .bool xw, .bool xr, .int .i64 xb, .int .i64 xn] 35 ∧ ∀ i ∈ S1, i < W.heap.size) ⟨HT.out.upd (s' := { s with tries := 1, clock := s.timeout, asked := false }) HF.out HS.out (HB.out.set 20 _) ((Keep.refl [g] _).setCell (.inl (by simp)) _) rfl rfl rfl rfl, HX.out.set_far (fun e => HN1.out (by rw [e]; exact HS.out _ own_g)) _, fun i hi => by have := hl1 i hi; simpa using this⟩ ?_
    clear HT HX HF HS HB c20 f20 hl1
    rintro w4 ⟨hT, hX, hl1⟩
    have HX := Lib.hid hX; have HL1 := Lib.hid hl1
    obtain ⟨s1, hs1⟩ : ∃ s1, s1 = ({ s with tries := 1, clock := s.timeout, asked := false } : Fs) := ⟨_, rfl⟩
    have HS0 := Lib.hid (show Pt w w4 g S S1 { s1 with sent := s.sent.drop 0, events := s.events ++ (s.sent.take 0).map ackEv } by rw [hs1]; simpa using hT)
    have HAK := Lib.hid (show ({ s1 with sent := s.sent.drop kn, events := s.events ++ (s.sent.take kn).map ackEv } : Fs) = ackF s kn by rw [hs1]; unfold ackF; rw [if_pos hz])
    clear hT hX hl1 hs1
    go_wp2_with fail
    go_loopw [34] (fun iv wr => ∃ i : Nat, i ≤ kn ∧ iv = .int .i64 i ∧ ∃ Si, Pt w wr g S Si { s1 with sent := s.sent.drop i, events := s.events ++ (s.sent.take i).map ackEv } ∧ Blk wr w.heap.size [.int .i64 xc, .bool false, .bool xw, .bool xr, .int .i64 xb, .int .i64 xn] 35 ∧ w.heap.size ∉ Si ∧ ∀ x ∈ Si, x < wr.heap.size) (fun iv _ => kn - (intOf iv).toNat)
    case atStart => exact ⟨0, Nat.zero_le _, rfl, S1, HS0.out, HX.out, HN1.out, HL1.out⟩
    case round =>
      obtain ⟨i, hi, rfl, Si, hT, hX, hN, hLt⟩ := hrel
      have HT := Lib.hid hT; have HX := Lib.hid hX; have HN := Lib.hid hN; have HLt := Lib.hid hLt; clear hT hX hN hLt
      by_cases hlt : i < kn
      · have hdr := List.drop_eq_getElem_cons (show i < s.sent.length by omega)
        have hev : (s.events ++ (s.sent.take i).map ackEv).length ≤ 1000000 := by simp; omega
        have htk : s.events ++ (s.sent.take (i + 1)).map ackEv = (s.events ++ (s.sent.take i).map ackEv) ++ [⟨2, (s.sent[i]'(by omega)).id, 0⟩] := by
          rw [List.take_succ_eq_append_getElem (show i < s.sent.length by omega), List.map_append, List.append_assoc]
          rfl
        have hdl : (s.sent.drop (i + 1)).length ≤ 1000000 := by simp; omega
        have HTK := Lib.hid htk; have HDR := Lib.hid hdr
        clear htk hdr
        obtain ⟨u, hu⟩ : ∃ u, u = s.sent[i]'(by omega) := ⟨_, rfl⟩
        rw [← hu] at HTK HDR
        clear hu
        go_wp2_with fail
        refine (popS_in u (s.sent.drop (i + 1)) { s1 with sent := s.sent.drop i, events := s.events ++ (s.sent.take i).map ackEv } g Si _ HDR.out hdl HT.out.in_).mono ?_
        rintro e w3 ⟨rfl, hT⟩
        have hX1 := HX.out.lt
        replace HX := Lib.hid (HX.out.in_keep HN.out hT)
        obtain ⟨S2, hT, hn2, hl2⟩ := HT.out.trans_far hT hX1 HN.out
        replace HT := Lib.hid hT; clear hT hX1
        obtain ⟨b, hb2⟩ : ∃ b, b = w3.heap.size := ⟨_, rfl⟩
        go_upto_region 12 with fail
        rw [← hb2]
        refine gen_world (fun W => Pt w W g S S2 { s1 with sent := s.sent.drop (i + 1), events := s.events ++ (s.sent.take i).map ackEv } ∧ Blk W w.heap.size [.int .i64 xc, .bool false, .bool xw, .bool xr, .int .i64 xb, .int .i64 xn] 35 ∧ Blk W b [.int .i64 u.id, .string u.data, .bool u.mark] 94 ∧ w.heap.size ∉ S2) ⟨HT.out.keepB ((Below.refl _ _).alloc (Nat.le_refl _) _), HX.out.alloc _, by rw [hb2]; exact Blk.new w3 _ 94, hn2⟩ ?_
        clear HT HX hb2 hn2 hl2 HN HLt
        rintro w4 ⟨hT, hX, hY, hr2⟩
        have HT := Lib.hid hT; have HX := Lib.hid hX; have HR2 := Lib.hid hr2
        have y0 := hY.cell 0
        simp only [List.getElem?_cons_zero, List.getElem?_cons_succ] at y0
        clear hT hX hr2 hY
        go_region_with (first | (go_at_call 57; refine (report_in ⟨2, u.id, 0⟩ { s1 with sent := s.sent.drop (i + 1), events := s.events ++ (s.sent.take i).map ackEv } g S2 _ hev HT.out.drew.in_).mono ?_; rintro e w5 ⟨rfl, hT⟩) | fail)
        have hX1 := HX.out.lt
        have HX5 := Lib.hid (HX.out.drew.in_keep HR2.out hT)
        obtain ⟨S3, hT3, hn3, hl3⟩ := HT.out.drew.trans_far hT hX1 HR2.out
        have HT5 := Lib.hid (show Pt w w5 g S S3 { s1 with sent := s.sent.drop (i + 1), events := (s.events ++ (s.sent.take i).map ackEv) ++ [⟨2, u.id, 0⟩] } from hT3)
        rw [← HTK.out] at HT5
        have HN5 := Lib.hid hn3; have HL5 := Lib.hid hl3
        clear hT hT3 hn3 hl3 hX1 HT HX HR2 y0
        go_wp2_with fail
        go_roundw
        case rel => exact ⟨i + 1, by omega, by go_num, S3, HT5.out, HX5.out, HN5.out, HL5.out⟩
        case measure => simp [intOf]; omega
      · obtain rfl : i = kn := by omega
        clear hlt hi
        obtain ⟨s2, hs2⟩ : ∃ s2, s2 = ({ s1 with sent := s.sent.drop i, events := s.events ++ (s.sent.take i).map ackEv } : Fs) := ⟨_, rfl⟩
        have h2 : s2 = ackF s i := by rw [hs2]; exact HAK.out
        rw [← hs2, h2] at HT
        clear hs2 h2
        go_upto_region 14 with fail
        obtain ⟨ve, vw, vs, vb, hF, hS⟩ := HT.out.in_
        have HF := Lib.hid hF; have HS := Lib.hid hS; have HB := Lib.hid hF.blk; clear hF hS
        have c9 := HB.out.cell 9
        have c18 := HB.out.cell 18
        have f9 := HB.out.free 9
        have f18 := HB.out.free 18
        simp only [Fs.cells, List.getElem?_cons_zero, List.getElem?_cons_succ] at c9 c18
        have x2 := HX.out.cell 2; have x5 := HX.out.cell 5
        simp only [List.getElem?_cons_zero, List.getElem?_cons_succ] at x2 x5
        have hrg : w.heap.size ≠ g := fun e => by have := HF.out.lt g own_g; exact HN.out (by rw [e]; exact HS.out _ own_g)
        refine region_end (fun W => W.cell? ⟨w.heap.size, 5, none⟩ = some (.int .i64 xn) ∧ W.cell? ⟨w.heap.size, 2, none⟩ = some (.bool xw)) 11 (by kernel_rfl) ⟨x5, x2⟩ (fun hInv hHeld => ?_)
        refine WpEnd.take (i := 0) (some 48) (v := ?_) rfl rfl (by kernel_rfl) (by kernel_rfl) (by kernel_rfl) (fun _ _ _ h => h) (by kernel_rfl) hInv (by assumption) (by rfl) ?_ (fun hInv => ?_)
        rotate_left
        · (intro w hSw; (try dsimp only at hSw); go_simp; (try with_reducible rfl))
        simp only [Act.put, List.setIfInBounds_toArray, List.set_cons_zero, List.set_cons_succ]
        refine WpEnd.take (i := 1) (some 49) (v := ?_) rfl rfl (by kernel_rfl) (by kernel_rfl) (by kernel_rfl) (fun _ _ _ h => h) (by kernel_rfl) hInv (by assumption) (by rfl) ?_ (fun hInv => ?_)
        rotate_left
        · (intro w hSw; (try dsimp only at hSw); go_simp; (try with_reducible rfl))
        simp only [Act.put, List.setIfInBounds_toArray, List.set_cons_zero, List.set_cons_succ]
        refine WpEnd.take (i := 2) (some 50) (v := ?_) rfl rfl (by kernel_rfl) (by kernel_rfl) (by kernel_rfl) (fun _ _ _ h => h) (by kernel_rfl) hInv (by assumption) (by rfl) ?_ (fun hInv => ?_)
        rotate_left
        · (intro w hSw; (try dsimp only at hSw); go_simp; (try with_reducible rfl))
        simp only [Act.put, List.setIfInBounds_toArray, List.set_cons_zero, List.set_cons_succ]
        refine WpEnd.take (i := 3) (some 51) (v := ?_) rfl rfl (by kernel_rfl) (by kernel_rfl) (by kernel_rfl) (fun _ _ _ h => h) (by kernel_rfl) hInv (by assumption) (by rfl) ?_ (fun hInv => ?_)
        rotate_left
        · (intro w hSw; (try dsimp only at hSw); go_simp; (try with_reducible rfl))
        simp only [Act.put, List.setIfInBounds_toArray, List.set_cons_zero, List.set_cons_succ]
        refine WpEnd.take (i := 4) (some 52) (v := ?_) rfl rfl (by kernel_rfl) (by kernel_rfl) (by kernel_rfl) (fun _ _ _ h => h) (by kernel_rfl) hInv (by assumption) (by rfl) ?_ (fun hInv => ?_)
        rotate_left
        · (intro w hSw; (try dsimp only at hSw); go_simp; (try with_reducible rfl))
        simp only [Act.put, List.setIfInBounds_toArray, List.set_cons_zero, List.set_cons_succ]
        refine WpEnd.take (i := 5) (some 53) (v := ?_) rfl rfl (by kernel_rfl) (by kernel_rfl) (by kernel_rfl) (fun _ _ _ h => h) (by kernel_rfl) hInv (by assumption) (by rfl) ?_ (fun hInv => ?_)
        rotate_left
        · (intro w hSw; (try dsimp only at hSw); go_simp; (try with_reducible rfl))
        simp only [Act.put, List.setIfInBounds_toArray, List.set_cons_zero, List.set_cons_succ]
        refine WpEnd.take (i := 6) (some 54) (v := ?_) rfl rfl (by kernel_rfl) (by kernel_rfl) (by kernel_rfl) (fun _ _ _ h => h) (by kernel_rfl) hInv (by assumption) (by rfl) ?_ (fun hInv => ?_)
        rotate_left
        · (intro w hSw; (try dsimp only at hSw); go_simp; (try with_reducible rfl))
        simp only [Act.put, List.setIfInBounds_toArray, List.set_cons_zero, List.set_cons_succ]
        refine WpEnd.take (i := 7) (some 55) (v := ?_) rfl rfl (by kernel_rfl) (by kernel_rfl) (by kernel_rfl) (fun _ _ _ h => h) (by kernel_rfl) hInv (by assumption) (by rfl) ?_ (fun hInv => ?_)
        rotate_left
        · (intro w hSw; (try dsimp only at hSw); go_simp; (try with_reducible rfl))
        simp only [Act.put, List.setIfInBounds_toArray, List.set_cons_zero, List.set_cons_succ]
        refine WpEnd.ready (rs := [8]) (by kernel_rfl) (by simp) ?_
        refine EachEnd.cons none rfl rfl (by decide) (by kernel_rfl) hInv (fun K hKK hKB => ?_) EachEnd.nil
        go_simp
        have z5 : (wr.drew.setCell ⟨g, 9, none⟩ (.int .i64 xn)).cell? ⟨w.heap.size, 5, none⟩ = some (.int .i64 xn) := ((HX.out.drew.set_far (p := ⟨g, 9, none⟩) hrg _).cell 5)
        have z2 : (wr.drew.setCell ⟨g, 9, none⟩ (.int .i64 xn)).cell? ⟨w.heap.size, 2, none⟩ = some (.bool xw) := ((HX.out.drew.set_far (p := ⟨g, 9, none⟩) hrg _).cell 2)
        refine hKB.out _ _ ⟨z5, z2⟩ (fun hInv hHeld => ?_)
        clear hKK hKB K
        refine WpEnd.take (i := 9) (some 56) (v := ?_) rfl rfl (by kernel_rfl) (by kernel_rfl) (by kernel_rfl) (fun _ _ _ h => h) (by kernel_rfl) hInv (by assumption) (by rfl) ?_ (fun hInv => ?_)
        rotate_left
        · (intro w hSw; (try dsimp only at hSw); go_simp; (try with_reducible rfl))
        simp only [Act.put, List.setIfInBounds_toArray, List.set_cons_zero, List.set_cons_succ]
        refine WpEnd.take (i := 10) (some 57) (v := ?_) rfl rfl (by kernel_rfl) (by kernel_rfl) (by kernel_rfl) (fun _ _ _ h => h) (by kernel_rfl) hInv (by assumption) (by rfl) ?_ (fun hInv => ?_)
        rotate_left
        · (intro w hSw; (try dsimp only at hSw); go_simp; (try with_reducible rfl))
        simp only [Act.put, List.setIfInBounds_toArray, List.set_cons_zero, List.set_cons_succ]
        refine WpEnd.ready (rs := [11]) (by kernel_rfl) (by simp) ?_
        refine EachEnd.last rfl (fun K hKK => ?_)
        go_simp
        refine hKK.out _ _ ?_
        clear hKK K
        refine WpEnd.done (by kernel_rfl) ?_ _
        refine post_any (fun W => Pt w W g S Si (takenF s xn xw i) ∧ Blk W w.heap.size [.int .i64 xc, .bool false, .bool xw, .bool xr, .int .i64 xb, .int .i64 xn] 35) ⟨HT.out.upd (s' := takenF s xn xw i) HF.out HS.out ((HB.out.drew.set 9 (.int .i64 xn)).set 18 (.bool xw)) (((Keep.refl [g] _).drew.setCell (.inl (by simp)) _).setCell (.inl (by simp)) _) rfl rfl rfl rfl, (HX.out.drew.set_far (p := ⟨g, 9, none⟩) hrg _).set_far (p := ⟨g, 18, none⟩) hrg _⟩ ?_
        clear HT HX HF HS HB c9 c18 f9 f18 x2 x5 z5 z2 hHeld hInv HN HLt
        rintro w6 ⟨hT, hX⟩
        have HT := Lib.hid hT; have HX := Lib.hid hX; clear hT hX
        have x3 := HX.out.cell 3
        simp only [List.getElem?_cons_zero, List.getElem?_cons_succ] at x3
        have hml : (takenF s xn xw i).sent.length ≤ 1000000 := by simp [takenF, ackF]; omega
        cases xr with
        | false =>
          have HWF := Lib.hid (show wordF s xn xw false i = takenF s xn xw i from rfl)
          go_wp2_with fail
          go_end0
          exact ⟨rfl, by rw [HWF.out]; exact HT.out.to⟩
        | true =>
          obtain ⟨ve, vw, vs, vb, hF, hS⟩ := HT.out.in_
          have HF := Lib.hid hF; have HS := Lib.hid hS; have HB := Lib.hid hF.blk; clear hF hS
          have c20 := HB.out.cell 20
          simp only [Fs.cells, List.getElem?_cons_zero, List.getElem?_cons_succ] at c20
          cases hask : (takenF s xn xw i).asked with
          | true =>
            have HWF := Lib.hid (show wordF s xn xw true i = takenF s xn xw i by unfold wordF; rw [hask]; rfl)
            rw [hask] at c20
            clear hask
            go_wp2_with fail
            go_end0
            exact ⟨rfl, by rw [HWF.out]; exact HT.out.to⟩
          | false =>
            have HWF := Lib.hid (show wordF s xn xw true i = { markF (takenF s xn xw i) with asked := true } by unfold wordF; rw [hask]; rfl)
            rw [hask] at c20
            clear hask
            go_wp2_with fail
            refine (mark_in (takenF s xn xw i) g Si _ hml HT.out.in_).mono ?_
            rintro e w7 ⟨rfl, hT⟩
            obtain ⟨S1, hT⟩ := HT.out.trans hT
            replace HT := Lib.hid hT; clear hT
            clear HF HS HB c20 x3
            obtain ⟨ve, vw, vs, vb, hF, hS⟩ := HT.out.in_
            have HF := Lib.hid hF; have HS := Lib.hid hS; have HB := Lib.hid hF.blk; clear hF hS
            have c20 := HB.out.cell 20
            have f20 := HB.out.free 20
            simp only [Fs.cells, List.getElem?_cons_zero, List.getElem?_cons_succ] at c20
            go_wp2_with fail
            go_end0
            exact ⟨rfl, by rw [HWF.out]; exact (HT.out.upd (s' := { markF (takenF s xn xw i) with asked := true }) HF.out HS.out (HB.out.set 20 _) ((Keep.refl [g] _).setCell (.inl (by simp)) _) rfl rfl rfl rfl).to⟩
  · have hz2 : ¬ (0 : Int) < (kn : Int) := by omega
    obtain ⟨S1, hS1, hl1, hsub⟩ := HT.out.in_.small
    have hT : Pt w w2 g S S1 s := ⟨hS1, HT.out.keep, fun k hk => HT.out.new k (hsub k hk)⟩
    have HN1 := Lib.hid (fun h => HN0.out (hsub _ h)); have HL1 := Lib.hid hl1
    obtain ⟨s1, hs1⟩ : ∃ s1, s1 = s := ⟨_, rfl⟩
    have HS0 := Lib.hid (show Pt w w2 g S S1 { s1 with sent := s.sent.drop 0, events := s.events ++ (s.sent.take 0).map ackEv } by rw [hs1]; simpa using hT)
    have HAK := Lib.hid (show ({ s1 with sent := s.sent.drop kn, events := s.events ++ (s.sent.take kn).map ackEv } : Fs) = ackF s kn by rw [hs1]; unfold ackF; rw [if_neg hz])
    clear hT hs1 hS1 hl1 hsub
    go_wp2_with fail
    go_loopw [34] (fun iv wr => ∃ i : Nat, i ≤ kn ∧ iv = .int .i64 i ∧ ∃ Si, Pt w wr g S Si { s1 with sent := s.sent.drop i, events := s.events ++ (s.sent.take i).map ackEv } ∧ Blk wr w.heap.size [.int .i64 xc, .bool false, .bool xw, .bool xr, .int .i64 xb, .int .i64 xn] 35 ∧ w.heap.size ∉ Si ∧ ∀ x ∈ Si, x < wr.heap.size) (fun iv _ => kn - (intOf iv).toNat)
    case atStart => exact ⟨0, Nat.zero_le _, rfl, S1, HS0.out, HX.out, HN1.out, HL1.out⟩
    case round =>
      obtain ⟨i, hi, rfl, Si, hT, hX, hN, hLt⟩ := hrel
      have HT := Lib.hid hT; have HX := Lib.hid hX; have HN := Lib.hid hN; have HLt := Lib.hid hLt; clear hT hX hN hLt
      by_cases hlt : i < kn
      · exact absurd hlt (by omega)
      · obtain rfl : i = kn := by omega
        clear hlt hi
        obtain ⟨s2, hs2⟩ : ∃ s2, s2 = ({ s1 with sent := s.sent.drop i, events := s.events ++ (s.sent.take i).map ackEv } : Fs) := ⟨_, rfl⟩
        have h2 : s2 = ackF s i := by rw [hs2]; exact HAK.out
        rw [← hs2, h2] at HT
        clear hs2 h2
        go_upto_region 14 with fail
        obtain ⟨ve, vw, vs, vb, hF, hS⟩ := HT.out.in_
        have HF := Lib.hid hF; have HS := Lib.hid hS; have HB := Lib.hid hF.blk; clear hF hS
        have c9 := HB.out.cell 9
        have c18 := HB.out.cell 18
        have f9 := HB.out.free 9
        have f18 := HB.out.free 18
        simp only [Fs.cells, List.getElem?_cons_zero, List.getElem?_cons_succ] at c9 c18
        have x2 := HX.out.cell 2; have x5 := HX.out.cell 5
        simp only [List.getElem?_cons_zero, List.getElem?_cons_succ] at x2 x5
        have hrg : w.heap.size ≠ g := fun e => by have := HF.out.lt g own_g; exact HN.out (by rw [e]; exact HS.out _ own_g)
        refine region_end (fun W => W.cell? ⟨w.heap.size, 5, none⟩ = some (.int .i64 xn) ∧ W.cell? ⟨w.heap.size, 2, none⟩ = some (.bool xw)) 11 (by kernel_rfl) ⟨x5, x2⟩ (fun hInv hHeld => ?_)
        refine WpEnd.take (i := 0) (some 48) (v := ?_) rfl rfl (by kernel_rfl) (by kernel_rfl) (by kernel_rfl) (fun _ _ _ h => h) (by kernel_rfl) hInv (by assumption) (by rfl) ?_ (fun hInv => ?_)
        rotate_left
        · (intro w hSw; (try dsimp only at hSw); go_simp; (try with_reducible rfl))
        simp only [Act.put, List.setIfInBounds_toArray, List.set_cons_zero, List.set_cons_succ]
        refine WpEnd.take (i := 1) (some 49) (v := ?_) rfl rfl (by kernel_rfl) (by kernel_rfl) (by kernel_rfl) (fun _ _ _ h => h) (by kernel_rfl) hInv (by assumption) (by rfl) ?_ (fun hInv => ?_)
        rotate_left
        · (intro w hSw; (try dsimp only at hSw); go_simp; (try with_reducible rfl))
        simp only [Act.put, List.setIfInBounds_toArray, List.set_cons_zero, List.set_cons_succ]
        refine WpEnd.take (i := 2) (some 50) (v := ?_) rfl rfl (by kernel_rfl) (by kernel_rfl) (by kernel_rfl) (fun _ _ _ h => h) (by kernel_rfl) hInv (by assumption) (by rfl) ?_ (fun hInv => ?_)
        rotate_left
        · (intro w hSw; (try dsimp only at hSw); go_simp; (try with_reducible rfl))
        simp only [Act.put, List.setIfInBounds_toArray, List.set_cons_zero, List.set_cons_succ]
        refine WpEnd.take (i := 3) (some 51) (v := ?_) rfl rfl (by kernel_rfl) (by kernel_rfl) (by kernel_rfl) (fun _ _ _ h => h) (by kernel_rfl) hInv (by assumption) (by rfl) ?_ (fun hInv => ?_)
        rotate_left
        · (intro w hSw; (try dsimp only at hSw); go_simp; (try with_reducible rfl))
        simp only [Act.put, List.setIfInBounds_toArray, List.set_cons_zero, List.set_cons_succ]
        refine WpEnd.take (i := 4) (some 52) (v := ?_) rfl rfl (by kernel_rfl) (by kernel_rfl) (by kernel_rfl) (fun _ _ _ h => h) (by kernel_rfl) hInv (by assumption) (by rfl) ?_ (fun hInv => ?_)
        rotate_left
        · (intro w hSw; (try dsimp only at hSw); go_simp; (try with_reducible rfl))
        simp only [Act.put, List.setIfInBounds_toArray, List.set_cons_zero, List.set_cons_succ]
        refine WpEnd.take (i := 5) (some 53) (v := ?_) rfl rfl (by kernel_rfl) (by kernel_rfl) (by kernel_rfl) (fun _ _ _ h => h) (by kernel_rfl) hInv (by assumption) (by rfl) ?_ (fun hInv => ?_)
        rotate_left
        · (intro w hSw; (try dsimp only at hSw); go_simp; (try with_reducible rfl))
        simp only [Act.put, List.setIfInBounds_toArray, List.set_cons_zero, List.set_cons_succ]
        refine WpEnd.take (i := 6) (some 54) (v := ?_) rfl rfl (by kernel_rfl) (by kernel_rfl) (by kernel_rfl) (fun _ _ _ h => h) (by kernel_rfl) hInv (by assumption) (by rfl) ?_ (fun hInv => ?_)
        rotate_left
        · (intro w hSw; (try dsimp only at hSw); go_simp; (try with_reducible rfl))
        simp only [Act.put, List.setIfInBounds_toArray, List.set_cons_zero, List.set_cons_succ]
        refine WpEnd.take (i := 7) (some 55) (v := ?_) rfl rfl (by kernel_rfl) (by kernel_rfl) (by kernel_rfl) (fun _ _ _ h => h) (by kernel_rfl) hInv (by assumption) (by rfl) ?_ (fun hInv => ?_)
        rotate_left
        · (intro w hSw; (try dsimp only at hSw); go_simp; (try with_reducible rfl))
        simp only [Act.put, List.setIfInBounds_toArray, List.set_cons_zero, List.set_cons_succ]
        refine WpEnd.ready (rs := [8]) (by kernel_rfl) (by simp) ?_
        refine EachEnd.cons none rfl rfl (by decide) (by kernel_rfl) hInv (fun K hKK hKB => ?_) EachEnd.nil
        go_simp
        have z5 : (wr.drew.setCell ⟨g, 9, none⟩ (.int .i64 xn)).cell? ⟨w.heap.size, 5, none⟩ = some (.int .i64 xn) := ((HX.out.drew.set_far (p := ⟨g, 9, none⟩) hrg _).cell 5)
        have z2 : (wr.drew.setCell ⟨g, 9, none⟩ (.int .i64 xn)).cell? ⟨w.heap.size, 2, none⟩ = some (.bool xw) := ((HX.out.drew.set_far (p := ⟨g, 9, none⟩) hrg _).cell 2)
        refine hKB.out _ _ ⟨z5, z2⟩ (fun hInv hHeld => ?_)
        clear hKK hKB K
        refine WpEnd.take (i := 9) (some 56) (v := ?_) rfl rfl (by kernel_rfl) (by kernel_rfl) (by kernel_rfl) (fun _ _ _ h => h) (by kernel_rfl) hInv (by assumption) (by rfl) ?_ (fun hInv => ?_)
        rotate_left
        · (intro w hSw; (try dsimp only at hSw); go_simp; (try with_reducible rfl))
        simp only [Act.put, List.setIfInBounds_toArray, List.set_cons_zero, List.set_cons_succ]
        refine WpEnd.take (i := 10) (some 57) (v := ?_) rfl rfl (by kernel_rfl) (by kernel_rfl) (by kernel_rfl) (fun _ _ _ h => h) (by kernel_rfl) hInv (by assumption) (by rfl) ?_ (fun hInv => ?_)
        rotate_left
        · (intro w hSw; (try dsimp only at hSw); go_simp; (try with_reducible rfl))
        simp only [Act.put, List.setIfInBounds_toArray, List.set_cons_zero, List.set_cons_succ]
        refine WpEnd.ready (rs := [11]) (by kernel_rfl) (by simp) ?_
        refine EachEnd.last rfl (fun K hKK => ?_)
        go_simp
        refine hKK.out _ _ ?_
        clear hKK K
        refine WpEnd.done (by kernel_rfl) ?_ _
        refine post_any (fun W => Pt w W g S Si (takenF s xn xw i) ∧ Blk W w.heap.size [.int .i64 xc, .bool false, .bool xw, .bool xr, .int .i64 xb, .int .i64 xn] 35) ⟨HT.out.upd (s' := takenF s xn xw i) HF.out HS.out ((HB.out.drew.set 9 (.int .i64 xn)).set 18 (.bool xw)) (((Keep.refl [g] _).drew.setCell (.inl (by simp)) _).setCell (.inl (by simp)) _) rfl rfl rfl rfl, (HX.out.drew.set_far (p := ⟨g, 9, none⟩) hrg _).set_far (p := ⟨g, 18, none⟩) hrg _⟩ ?_
        clear HT HX HF HS HB c9 c18 f9 f18 x2 x5 z5 z2 hHeld hInv HN HLt
        rintro w6 ⟨hT, hX⟩
        have HT := Lib.hid hT; have HX := Lib.hid hX; clear hT hX
        have x3 := HX.out.cell 3
        simp only [List.getElem?_cons_zero, List.getElem?_cons_succ] at x3
        have hml : (takenF s xn xw i).sent.length ≤ 1000000 := by simp [takenF, ackF]; omega
        cases xr with
        | false =>
          have HWF := Lib.hid (show wordF s xn xw false i = takenF s xn xw i from rfl)
          go_wp2_with fail
          go_end0
          exact ⟨rfl, by rw [HWF.out]; exact HT.out.to⟩
        | true =>
          obtain ⟨ve, vw, vs, vb, hF, hS⟩ := HT.out.in_
          have HF := Lib.hid hF; have HS := Lib.hid hS; have HB := Lib.hid hF.blk; clear hF hS
          have c20 := HB.out.cell 20
          simp only [Fs.cells, List.getElem?_cons_zero, List.getElem?_cons_succ] at c20
          cases hask : (takenF s xn xw i).asked with
          | true =>
            have HWF := Lib.hid (show wordF s xn xw true i = takenF s xn xw i by unfold wordF; rw [hask]; rfl)
            rw [hask] at c20
            clear hask
            go_wp2_with fail
            go_end0
            exact ⟨rfl, by rw [HWF.out]; exact HT.out.to⟩
          | false =>
            have HWF := Lib.hid (show wordF s xn xw true i = { markF (takenF s xn xw i) with asked := true } by unfold wordF; rw [hask]; rfl)
            rw [hask] at c20
            clear hask
            go_wp2_with fail
            refine (mark_in (takenF s xn xw i) g Si _ hml HT.out.in_).mono ?_
            rintro e w7 ⟨rfl, hT⟩
            obtain ⟨S1, hT⟩ := HT.out.trans hT
            replace HT := Lib.hid hT; clear hT
            clear HF HS HB c20 x3
            obtain ⟨ve, vw, vs, vb, hF, hS⟩ := HT.out.in_
            have HF := Lib.hid hF; have HS := Lib.hid hS; have HB := Lib.hid hF.blk; clear hF hS
            have c20 := HB.out.cell 20
            have f20 := HB.out.free 20
            simp only [Fs.cells, List.getElem?_cons_zero, List.getElem?_cons_succ] at c20
            go_wp2_with fail
            go_end0
            exact ⟨rfl, by rw [HWF.out]; exact (HT.out.upd (s' := { markF (takenF s xn xw i) with asked := true }) HF.out HS.out (HB.out.set 20 _) ((Keep.refl [g] _).setCell (.inl (by simp)) _) rfl rfl rfl rfl).to⟩
end
end Go.Proofs.Ytbncejmohhejlaa
