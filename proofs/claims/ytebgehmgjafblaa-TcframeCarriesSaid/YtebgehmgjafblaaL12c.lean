/- What is proved here: the walk of the law about carried packets. -/
import Derived.Test.YtebgehmgjafblaaH12
import Derived.Test.YtebgehmgjafblaaT8
import Derived.Test.YtebgehmgjafblaaA9
import Derived.Test.YtebgehmgjafblaaLg
import Derived.Test.YtebgehmgjafblaaP12
set_option linter.unusedVariables false
set_option linter.unusedSimpArgs false
namespace Go.Proofs.Ytebgehmgjafblaa
open Go.RowKit
theorem segs_ok (p : ByteArray) (m N : Nat) (w : World) (hp1 : 1 ≤ p.size) (hp2 : p.size ≤ 1030) (hm1 : 1 ≤ m) (hm2 : m ≤ 199) (hN : N = segN p.size m) :
    Calls Try.prog 22 #[.string p, .int .i64 m] w fun e w' => ∃ a cap, e = .returned (.tuple #[.slice a N cap, .int .i64 0]) ∧ Below w.heap.size w w' ∧ ∀ i, i < N → ∃ g, a = some ⟨g, 0, none⟩ ∧ g < w'.heap.size ∧ w'.cell? ⟨g, i, none⟩ = some (.string (seg p m i)) := by
  refine (Segments_ok p m w hp1 hp2 hm1 hm2).mono ?_
  rintro e w' ⟨v, rfl, hR, hL⟩
  rw [← hN] at hR
  obtain ⟨a, cap, rfl, h⟩ := srow_form hR
  have hl : (segList p m N).length = N := by simp [segList]
  rw [hl] at h ⊢
  refine ⟨a, cap, rfl, hL, fun i hi => ?_⟩
  obtain ⟨g, hg, hc⟩ := h i hi
  have he : (segList p m N).getD i .empty = seg p m i := by
    rw [List.getD_eq_getElem?_getD, segList, List.getElem?_map, List.getElem?_range hi]
    rfl
  rw [he] at hc
  exact ⟨g, hg, World.block_lt_of_cell? _ _ hc, hc⟩
set_option maxHeartbeats 8000000 in
set_option maxRecDepth 100000 in
theorem TcframeCarries_any (a : Option Addr) (n cap : Nat) (S : Nat → ByteArray) (p : ByteArray) (z : Int) (w : World) (hn : n ≤ 9223372036854775807) (hR : RowAt w a n (fun i => .string (S i))) :
    Calls Try.prog 7 #[.slice a n cap, .string p, .int .i64 z] w fun e w' => e = .returned (.bool true) ∧ Below w.heap.size w w' := by
  have HR := Lib.hid hR
  have hlong := fun w1 => Long_any a n cap S 20000 w1 (by omega) (by omega) hn
  have HLONG := Lib.hid hlong
  clear hlong hR
  by_cases h5 : (5000 : Int) < p.size
  · go_enter Try.func7, Try.ntmps7
    go_wp2_with fail
    refine (shown12_any _).mono ?_
    rintro e w1 ⟨rfl, hL1⟩
    have HR1 := Lib.hid (HR.out.below hL1 (Nat.le_refl _))
    have HL1 := Lib.hid hL1; clear hL1
    go_wp2_with fail
    refine (HLONG.out w1 HR1.out).mono ?_
    rintro e w2 ⟨b, rfl, hL2⟩
    have HL2 := Lib.hid (HL1.out.trans (hL2.mono HL1.out.size)); clear hL2 HR1 HL1 HLONG
    cases b
    all_goals (go_wp2_with fail; go_ret; exact ⟨rfl, HL2.out⟩)
  · by_cases hg : 1 ≤ p.size ∧ p.size ≤ 1030 ∧ 1 ≤ z ∧ z ≤ 199
    case neg =>
      have HS := Lib.hid (fun W => Segments_bad p z W hg)
      clear hg
      go_enter Try.func7, Try.ntmps7
      go_wp2_with fail
      refine (shown12_any _).mono ?_
      rintro e w1 ⟨rfl, hL1⟩
      have HR1 := Lib.hid (HR.out.below hL1 (Nat.le_refl _))
      have HL1 := Lib.hid hL1; clear hL1
      go_wp2_with fail
      refine (HLONG.out w1 HR1.out).mono ?_
      rintro e w2 ⟨b, rfl, hL2⟩
      have HL2 := Lib.hid (HL1.out.trans (hL2.mono HL1.out.size)); clear hL2 HR1 HL1 HLONG
      cases b
      case true => go_wp2_with fail; go_ret; exact ⟨rfl, HL2.out⟩
      case false =>
        go_wp2_with fail
        refine (HS.out _).mono ?_
        rintro e w3 ⟨rfl, rfl⟩
        go_wp2_with fail
        go_ret
        exact ⟨rfl, HL2.out⟩
    case pos =>
      obtain ⟨g1, g2, g3, g4⟩ := hg
      obtain ⟨m, rfl⟩ : ∃ m : Nat, z = m := ⟨z.toNat, by omega⟩
      have hm1 : 1 ≤ m := by omega
      have hm2 : m ≤ 199 := by omega
      obtain ⟨N, hN⟩ : ∃ N, N = segN p.size m := ⟨_, rfl⟩
      have hN1 : 1 ≤ N := by rw [hN]; exact (segN_spec p.size m hm1 g1).2.2
      have hN2 : N ≤ 2000 := by
        rw [hN]; unfold segN
        exact Nat.le_trans (Nat.div_le_self _ _) (by omega)
      have HS := Lib.hid (fun W => segs_ok p m N W g1 g2 hm1 hm2 hN)
      have HCS := Lib.hid (fun k op xs hk hst => carry_step p m k N op xs hm1 hm2 g1 g2 hN hk hst)
      clear hN
      go_enter Try.func7, Try.ntmps7
      go_wp2_with fail
      refine (shown12_any _).mono ?_
      rintro e w1 ⟨rfl, hL1⟩
      have HR1 := Lib.hid (HR.out.below hL1 (Nat.le_refl _))
      have HL1 := Lib.hid hL1; clear hL1
      go_wp2_with fail
      refine (HLONG.out w1 HR1.out).mono ?_
      rintro e w2 ⟨b, rfl, hL2⟩
      have HL2 := Lib.hid (HL1.out.trans (hL2.mono HL1.out.size)); clear hL2 HR1 HL1 HLONG
      cases b
      case true => go_wp2_with fail; go_ret; exact ⟨rfl, HL2.out⟩
      case false =>
        go_wp2_with fail
        refine (HS.out _).mono ?_
        rintro e w3 ⟨la, lc, rfl, hL3, hl3⟩
        have HL3 := Lib.hid (HL2.out.trans (hL3.mono HL2.out.size)); have HLI := Lib.hid hl3
        clear hL3 hl3 HL2
        go_wp2_with fail
        refine (NewA_ok _).mono ?_
        rintro e w4 ⟨rfl, hw4⟩
        have hA4 : AsmAt w4 w3.heap.size w3.heap.size false [] := by rw [hw4]; exact new_asm w3
        have hL4 : Below w3.heap.size w3 w4 := by rw [hw4]; exact (Below.refl _ _).alloc (Nat.le_refl _) _
        clear hw4
        have hA0 := HL3.out.size
        have hA1 := hL4.size
        have HLI := Lib.hid (fun i hi => (HLI.out i hi : _))
        obtain ⟨A, hA⟩ : ∃ A, A = w3.heap.size := ⟨_, rfl⟩
        have HL3' := HL3
        rw [← hA] at hA4 hL4 hA0 hA1 ⊢
        have HLI := Lib.hid (show ∀ i, i < N → ∃ g, la = some ⟨g, 0, none⟩ ∧ g < A ∧ w3.cell? ⟨g, i, none⟩ = some (.string (seg p m i)) from by rw [hA]; exact HLI.out)
        have HL4 := Lib.hid hL4; have HA4 := Lib.hid hA4
        clear hL4 hA4 hA
        go_wp2_with fail
        go_loopg [10] n (fun M i wr => ∃ k : Nat, ∃ op : Bool, ∃ xs : List UInt8, k ≤ n ∧ M = n - k ∧ i = .int .i64 k ∧ Below A w3 wr ∧ AsmAt wr A A op xs ∧ xs.length ≤ 1030 ∧ A ≤ wr.heap.size)
        case atStart => exact ⟨0, false, [], by omega, by omega, rfl, HL4.out, HA4.out, by simp, hA1⟩
        case round =>
          obtain ⟨k, op, xs, hk, hm, rfl, hL, hAs, hx, hAw⟩ := hrel
          clear HA4
          by_cases hlt : k < n
          · obtain ⟨b, off, rfl, hb, c1⟩ := HR.out k hlt
            dsimp only at c1
            have HLw := Lib.hid (HL3.out.trans (hL.mono hA0))
            have c2 := (HLw.out.cell (p := ⟨b, off + k, none⟩) hb).trans c1
            obtain ⟨s, hs⟩ : ∃ s, s = S k := ⟨_, rfl⟩
            rw [← hs] at c1 c2
            have HFD := Lib.hid (Feed_any s A A op xs wr hx hAw hAs)
            have hlen := feedF_len op xs s.data.toList hx
            have HL := Lib.hid hL
            have HLEN := Lib.hid hlen
            clear hL hAs hs c1 hlen
            have hkk : (0 : Int) ≤ k := by omega
            have hkn : (k : Int) < n := by omega
            go_wp2_with fail
            refine HFD.out.mono ?_
            rintro e w5 ⟨rfl, hL5, hP5, hA5⟩
            have hAw5 := Nat.le_trans hAw hL5.size
            have HL5 := Lib.hid (HL.out.trans hL5)
            have HA5 := Lib.hid hA5
            clear hL5 hP5 hA5 c2
            go_wp2_with fail
            go_roundg (n - (k + 1))
            case measure => omega
            case rel => exact ⟨k + 1, _, _, by omega, rfl, by go_num, HL5.out, HA5.out, HLEN.out, hAw5⟩
          · obtain rfl : k = n := by omega
            have HL := Lib.hid hL; have HAs := Lib.hid hAs; clear hL hAs
            go_wp2_with fail
            go_loopg [11] N (fun M i wr => ∃ k : Nat, ∃ op : Bool, ∃ xs : List UInt8, k ≤ N ∧ M = N - k ∧ i = .int .i64 k ∧ Below A w3 wr ∧ AsmAt wr A A op xs ∧ xs.length ≤ 1030 ∧ A ≤ wr.heap.size ∧ (k < N → k ≠ 0 → op = true ∧ xs = p.data.toList.take (k * m)))
            case atStart => exact ⟨0, op, xs, by omega, by omega, rfl, HL.out, HAs.out, hx, hAw, fun _ h => absurd rfl h⟩
            case round =>
              clear HL HAs hx hAw hm HR
              obtain ⟨q, op1, xs1, hq, hm, rfl, hL, hAs, hx, hAw, hst⟩ := hrel
              by_cases hlt : q < N
              · obtain ⟨g, rfl, hgA, c1⟩ := HLI.out q hlt
                have c2 := (hL.cell (p := ⟨g, q, none⟩) hgA).trans c1
                have hfd := Feed_any (seg p m q) A A op1 xs1 wr hx hAw hAs
                have hlen := feedF_len op1 xs1 (seg p m q).data.toList hx
                rw [HCS.out q op1 xs1 hlt (hst hlt)] at hfd hlen
                obtain ⟨s, hs⟩ : ∃ s, s = seg p m q := ⟨_, rfl⟩
                rw [← hs] at c1 c2 hfd
                dsimp only [pv, pieceV] at hfd hlen
                have HL := Lib.hid hL
                have hkk : (0 : Int) ≤ q := by omega
                have hkn : (q : Int) < N := by omega
                have hwr : IntKind.i64.wrap ((N : Int) - 1) = (N : Int) - 1 := IntWalk.i64_in _ (by omega)
                clear hL hAs hs c1 hst
                by_cases hlast : q + 1 = N
                · have hkl : ((q : Int) == (N : Int) - 1) = true := by simp; omega
                  have hss : (p.toList == p.toList) = true := by simp
                  rw [decide_eq_true hlast, if_pos hlast, decide_eq_false (not_not_intro hlast), if_pos hlast] at hfd
                  rw [if_pos hlast] at hlen
                  have HLEN := Lib.hid hlen
                  have hpp : (⟨p.data.toList.toArray⟩ : ByteArray) = p := rfl
                  rw [hpp] at hfd
                  have HLA := Lib.hid hlast
                  clear hpp hlen hlast
                  by_cases h0 : q = 0
                  · rw [if_pos h0] at hfd
                    have HFD := Lib.hid hfd
                    have hq0 : ¬ (0 : Int) < q := by omega
                    clear hfd h0
                    go_wp2_with fail
                    refine HFD.out.mono ?_
                    rintro e w5 ⟨rfl, hL5, hP5, hA5⟩
                    have hAw5 := Nat.le_trans hAw hL5.size
                    have HL5 := Lib.hid (HL.out.trans hL5)
                    have HA5 := Lib.hid hA5
                    have HL6 := Lib.hid (HL5.out.alloc (Nat.le_trans hAw5 (Nat.le_refl _)) (Obj.cells #[.bool true, .string p, .int .i64 0, .bool op1] 57))
                    have HA6 := Lib.hid (hA5.alloc (Obj.cells #[.bool true, .string p, .int .i64 0, .bool op1] 57))
                    clear hL5 hP5 hA5 c2
                    go_wp2_with fail
                    go_roundg (N - (q + 1))
                    case measure => omega
                    case rel => exact ⟨q + 1, _, _, by omega, rfl, by go_num, HL6.out, HA6.out, HLEN.out, by rw [World.size_alloc]; omega, fun h => absurd h (by have := HLA.out; omega)⟩
                  · rw [if_neg h0] at hfd
                    have HFD := Lib.hid hfd
                    have hq0 : (0 : Int) < q := by omega
                    clear hfd h0
                    go_wp2_with fail
                    refine HFD.out.mono ?_
                    rintro e w5 ⟨rfl, hL5, hP5, hA5⟩
                    have hAw5 := Nat.le_trans hAw hL5.size
                    have HL5 := Lib.hid (HL.out.trans hL5)
                    have HA5 := Lib.hid hA5
                    have HL6 := Lib.hid (HL5.out.alloc (Nat.le_trans hAw5 (Nat.le_refl _)) (Obj.cells #[.bool true, .string p, .int .i64 0, .bool false] 57))
                    have HA6 := Lib.hid (hA5.alloc (Obj.cells #[.bool true, .string p, .int .i64 0, .bool false] 57))
                    clear hL5 hP5 hA5 c2
                    go_wp2_with fail
                    go_roundg (N - (q + 1))
                    case measure => omega
                    case rel => exact ⟨q + 1, _, _, by omega, rfl, by go_num, HL6.out, HA6.out, HLEN.out, by rw [World.size_alloc]; omega, fun h => absurd h (by have := HLA.out; omega)⟩
                · have hkl : ((q : Int) == (N : Int) - 1) = false := by simp; omega
                  rw [decide_eq_false hlast, if_neg hlast, decide_eq_true hlast, if_neg hlast] at hfd
                  rw [if_neg hlast] at hlen
                  have HLEN := Lib.hid hlen
                  have HLA := Lib.hid hlast
                  clear hlen hlast
                  by_cases h0 : q = 0
                  · rw [if_pos h0] at hfd
                    have HFD := Lib.hid hfd
                    have hq0 : ¬ (0 : Int) < q := by omega
                    clear hfd h0
                    go_wp2_with fail
                    refine HFD.out.mono ?_
                    rintro e w5 ⟨rfl, hL5, hP5, hA5⟩
                    have hAw5 := Nat.le_trans hAw hL5.size
                    have HL5 := Lib.hid (HL.out.trans hL5)
                    have HA5 := Lib.hid hA5
                    have HL6 := Lib.hid (HL5.out.alloc (Nat.le_trans hAw5 (Nat.le_refl _)) (Obj.cells #[.bool false, .string ⟨#[]⟩, .int .i64 0, .bool op1] 57))
                    have HA6 := Lib.hid (hA5.alloc (Obj.cells #[.bool false, .string ⟨#[]⟩, .int .i64 0, .bool op1] 57))
                    clear hL5 hP5 hA5 c2
                    go_wp2_with fail
                    go_roundg (N - (q + 1))
                    case measure => omega
                    case rel => exact ⟨q + 1, _, _, by omega, rfl, by go_num, HL6.out, HA6.out, HLEN.out, by rw [World.size_alloc]; omega, fun _ _ => ⟨rfl, rfl⟩⟩
                  · rw [if_neg h0] at hfd
                    have HFD := Lib.hid hfd
                    have hq0 : (0 : Int) < q := by omega
                    clear hfd h0
                    go_wp2_with fail
                    refine HFD.out.mono ?_
                    rintro e w5 ⟨rfl, hL5, hP5, hA5⟩
                    have hAw5 := Nat.le_trans hAw hL5.size
                    have HL5 := Lib.hid (HL.out.trans hL5)
                    have HA5 := Lib.hid hA5
                    have HL6 := Lib.hid (HL5.out.alloc (Nat.le_trans hAw5 (Nat.le_refl _)) (Obj.cells #[.bool false, .string ⟨#[]⟩, .int .i64 0, .bool false] 57))
                    have HA6 := Lib.hid (hA5.alloc (Obj.cells #[.bool false, .string ⟨#[]⟩, .int .i64 0, .bool false] 57))
                    clear hL5 hP5 hA5 c2
                    go_wp2_with fail
                    go_roundg (N - (q + 1))
                    case measure => omega
                    case rel => exact ⟨q + 1, _, _, by omega, rfl, by go_num, HL6.out, HA6.out, HLEN.out, by rw [World.size_alloc]; omega, fun _ _ => ⟨rfl, rfl⟩⟩
              · obtain rfl : q = N := by omega
                have hq0 : 0 < q := by omega
                have hq1 : decide (0 < q) = true := by simp; omega
                go_wp2_with fail
                go_ret
                refine ⟨?_, HL3.out.trans (hL.mono hA0)⟩
                first | rfl | (rw [← hq1]; rfl)
end Go.Proofs.Ytebgehmgjafblaa
