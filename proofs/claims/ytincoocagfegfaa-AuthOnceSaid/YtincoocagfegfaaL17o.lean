/- What is proved here: the walk of the law that nothing is accepted twice. -/
import Derived.Test.YtincoocagfegfaaU14
import Derived.Test.YtincoocagfegfaaOm
import Derived.Test.YtincoocagfegfaaLh
import Derived.Test.YtincoocagfegfaaOt
import Derived.Deep.DeepCutAuto
import Derived.BigQuiet
set_option linter.unusedVariables false
set_option linter.unusedSimpArgs false
namespace Go.Proofs.Ytincoocagfegfaa
open Go.RowKit
theorem empty_ne (t : ByteArray) (h : t.size ≠ 0) : t.toList.isEmpty = false := by
  rw [toList_data]
  cases hd : t.data.toList with
  | nil =>
    have : t.data.toList.length = t.size := by simp
    rw [hd] at this; simp at this; omega
  | cons a l => rfl
theorem three_sizes (b s : ByteArray) (S : Nat → ByteArray) (n : Nat) (G : Gs) (k : Nat) (h : Kept b s G k) (hS : ∀ i, i < n → (S i).size ≤ 1000000) : ∀ i, i < 2 + n → (three b s S i).size ≤ 1000000 := by
  have ht : ∀ G : Gs, (⟨(textL G).toArray⟩ : ByteArray).size ≤ 1000000 := fun G => by rw [size_list]; show (textL G).length ≤ _; rw [textL_length]; omega
  have h0 : (⟨#[]⟩ : ByteArray).size ≤ 1000000 := Nat.zero_le _
  have hbs : b.size ≤ 1000000 ∧ s.size ≤ 1000000 := by
    rcases h with ⟨rfl, rfl, -⟩ | ⟨rfl, -, -, rfl | ⟨G0, rfl, -⟩⟩
    · exact ⟨h0, h0⟩
    · exact ⟨h0, ht _⟩
    · exact ⟨ht _, ht _⟩
  intro i hi
  unfold three
  split
  · exact hbs.1
  · split
    · exact hbs.2
    · exact hS _ (by omega)
set_option maxHeartbeats 8000000 in
set_option maxRecDepth 100000 in
theorem AuthOnce_any (key : ByteArray) (a1 : Option Addr) (n1 cap1 : Nat) (T : Nat → Tr) (a2 : Option Addr) (n2 cap2 : Nat) (S : Nat → ByteArray) (w : World) (hn1 : n1 ≤ 9223372036854775807) (hT : TrsAt w a1 n1 T) (hn2 : n2 ≤ 9223372036854775807) (hS : RowAt w a2 n2 (fun i => .string (S i))) :
    Calls Try.prog 7 #[.string key, .slice a1 n1 cap1, .slice a2 n2 cap2] w fun e w' => e = .returned (.bool true) ∧ Below w.heap.size w w' := by
  have HSH := Lib.hid (shown17_any)
  have HS := Lib.hid hS; have HT := Lib.hid hT
  have HLG := Lib.hid (fun W (h : RowAt W a2 n2 (fun i => .string (S i))) => Long_le a2 n2 cap2 S 5000 W (by decide) (by decide) hn2 h)
  have HQN := Lib.hid (fun t W => qNew_err zb t W (by decide))
  clear hS hT
  go_enter Try.func7, Try.ntmps7
  go_wp2_with fail
  refine (HSH.out _).mono ?_
  rintro e w1 ⟨rfl, hL⟩
  have HL := Lib.hid hL; clear hL HSH
  by_cases h16 : key.size = 16
  case neg =>
    have HK1 := Lib.hid (fun t W => aNew_key key t W h16)
    clear h16
    go_wp2_with fail
    refine (HK1.out _ _).mono ?_
    rintro e w2 ⟨rfl, hL⟩
    replace HL := Lib.hid (HL.out.trans (hL.mono HL.out.size))
    clear hL
    go_wp2_with fail
    go_ret
    exact ⟨rfl, HL.out⟩
  case pos =>
    have HNW := Lib.hid (fun W => aNew_empty key W h16)
    have HNK := Lib.hid (fun b s G k W h => aNew_kept key b s G k W h16 h)
    have HOP := Lib.hid (fun g G c d W h => aOpen_all g key G c d W h16 h)
    clear h16
    go_wp2_with fail
    refine (HNW.out _).mono ?_
    rintro e w2 ⟨g, rfl, hgl, hG, hL⟩
    have hgw : w.heap.size ≤ g := Nat.le_trans HL.out.size hgl
    replace HL := Lib.hid (HL.out.trans (hL.mono HL.out.size))
    have HG := Lib.hid hG
    clear hL hG hgl HNW
    by_cases h100 : (100 : Int) < n1
    · go_wp2_with fail
      go_ret
      exact ⟨rfl, HL.out⟩
    go_wp2_with fail
    refine (HLG.out _ (HS.out.below HL.out (Nat.le_refl _))).mono ?_
    rintro e w3 ⟨b, rfl, hb, hL⟩
    replace HL := Lib.hid (HL.out.trans (hL.mono HL.out.size))
    replace HG := Lib.hid (HG.out.below hL HG.out.lt)
    clear hL HLG
    cases b
    case true =>
      go_wp2_with fail
      go_ret
      exact ⟨rfl, HL.out⟩
    case false =>
      have h5 : (n2 : Int) ≤ 5000 := (hb rfl).1
      have HZ := Lib.hid (show ∀ i, i < n2 → (S i).size ≤ 1000000 from fun i hi => by have := (hb rfl).2 i hi; omega)
      clear hb
      go_wp2_with fail
      go_loopw [9] (fun i wr => ∃ k : Nat, k ≤ n2 ∧ i = .int .i64 k ∧ Below w.heap.size w wr ∧ Gd wr g key Gs.zero ∧ ∀ j, j < k → isSaved (S j).data.toList = false) (fun i _ => n2 - (intOf i).toNat)
      case atStart => exact ⟨0, by omega, rfl, HL.out, HG.out, fun j hj => by omega⟩
      case round =>
        clear HL HG
        obtain ⟨k, hk, rfl, hL, hG, hN⟩ := hrel
        have HL := Lib.hid hL; have HG := Lib.hid hG; have HN := Lib.hid hN; clear hL hG hN
        by_cases hlt : k < n2
        · obtain ⟨bb, off, rfl, hbb, hC⟩ := HS.out k hlt
          have c0 : wr.cell? ⟨bb, off + k, none⟩ = some (.string (S k)) := (HL.out.cell (p := ⟨bb, off + k, none⟩) hbb).trans hC
          replace hC : w.cell? ⟨bb, off + k, none⟩ = some (.string (S k)) := hC
          obtain ⟨t, ht⟩ : ∃ t, t = S k := ⟨_, rfl⟩
          rw [← ht] at c0 hC
          have HTT := Lib.hid ht; clear ht
          by_cases h0 : t.size = 0
          · have hsv : isSaved t.data.toList = false := by rw [empty_of t h0]; rfl
            have hnew : newE t = 0 := by unfold newE; rw [if_pos h0]
            have het : t.toList.isEmpty = true := by rw [empty_of t h0, toList_data]; rfl
            have HNT := Lib.hid (HQN.out t)
            rw [hnew] at HNT
            have HSV := Lib.hid hsv
            clear h0 hsv hnew
            go_wp2_with fail
            refine (HNT.out _).mono ?_
            rintro e w5 ⟨p, rfl, hL⟩
            replace HL := Lib.hid (HL.out.trans (hL.mono HL.out.size))
            replace HG := Lib.hid (HG.out.below hL HG.out.lt)
            replace c0 : w5.cell? ⟨bb, off + k, none⟩ = some (.string t) := (HL.out.cell (p := ⟨bb, off + k, none⟩) hbb).trans hC
            clear hL
            go_wp2_with fail
            go_roundw
            case rel => exact ⟨k + 1, by omega, by go_num, HL.out, HG.out, fun j hj => by
              by_cases h : j < k
              · exact HN.out j h
              · obtain rfl : j = k := by omega
                rw [← HTT.out]; exact HSV.out⟩
            case measure => simp [intOf]; omega
          · by_cases hsv : isSaved t.data.toList = true
            · have hnew : newE t = 0 := by unfold newE; rw [if_neg h0, if_pos hsv]
              have hne := empty_ne t h0
              have HNT := Lib.hid (HQN.out t)
              rw [hnew] at HNT
              clear h0 hsv hnew
              go_wp2_with fail
              refine (HNT.out _).mono ?_
              rintro e w5 ⟨p, rfl, hL⟩
              replace HL := Lib.hid (HL.out.trans (hL.mono HL.out.size))
              replace c0 : w5.cell? ⟨bb, off + k, none⟩ = some (.string t) := (HL.out.cell (p := ⟨bb, off + k, none⟩) hbb).trans hC
              clear hL
              go_wp2_with fail
              go_ret
              exact ⟨rfl, HL.out⟩
            · have hnew : newE t = 6 := by unfold newE; rw [if_neg h0, if_neg hsv]
              have HNT := Lib.hid (HQN.out t)
              rw [hnew] at HNT
              have HSV := Lib.hid (show isSaved t.data.toList = false by simpa using hsv)
              clear h0 hsv hnew
              go_wp2_with fail
              refine (HNT.out _).mono ?_
              rintro e w5 ⟨p, rfl, hL⟩
              replace HL := Lib.hid (HL.out.trans (hL.mono HL.out.size))
              replace HG := Lib.hid (HG.out.below hL HG.out.lt)
              clear hL c0
              go_wp2_with fail
              go_roundw
              case rel => exact ⟨k + 1, by omega, by go_num, HL.out, HG.out, fun j hj => by
                by_cases h : j < k
                · exact HN.out j h
                · obtain rfl : j = k := by omega
                  rw [← HTT.out]; exact HSV.out⟩
              case measure => simp [intOf]; omega
        · obtain rfl : n2 = k := by omega
          clear HQN hlt
          obtain ⟨lb, hlb⟩ : ∃ lb, lb = wr.heap.size := ⟨_, rfl⟩
          have HLB := Lib.hid (show Blk _ lb (lastL Gs.zero) _ from Blk.new_at wr (lastL Gs.zero) 41 lb hlb)
          have hglb : g ≠ lb := by have := HG.out.lt; omega
          have hwlb : w.heap.size ≤ lb := by have := HL.out.size; omega
          replace HL := Lib.hid (HL.out.alloc HL.out.size (Obj.cells (lastL Gs.zero).toArray 41))
          replace HG := Lib.hid (show Gd _ g key Gs.zero from Blk.alloc HG.out (Obj.cells (lastL Gs.zero).toArray 41))
          go_wp2_with fail
          rw [← hlb]
          clear hlb
          go_loopg [7, 8, 12, 13, 15] n1 (fun m gv e sv bf i wx => ∃ (q : Nat) (G : Gs) (gb : Nat) (b s : ByteArray), q ≤ n1 ∧ m = n1 - q ∧ i = .int .i64 q ∧ gv = .pointer (some ⟨gb, 0, none⟩) ∧ e = .int .i64 0 ∧ sv = .string s ∧ bf = .string b ∧ w.heap.size ≤ gb ∧ gb ≠ lb ∧ Kept b s G q ∧ Below w.heap.size w wx ∧ Gd wx gb key G ∧ Blk wx lb (lastL G) 41)
          case atStart => exact ⟨0, Gs.zero, g, ⟨#[]⟩, ⟨#[]⟩, by omega, by omega, rfl, rfl, rfl, rfl, rfl, hgw, hglb, .inl ⟨rfl, rfl, rfl, fun _ _ => rfl⟩, HL.out, HG.out, HLB.out⟩
          case round =>
            clear HL HG HLB hgw hglb
            obtain ⟨q, G, gb, b, s, hq, hm, rfl, rfl, rfl, rfl, rfl, hgw, hglb, hK, hL, hG, hB⟩ := hrel
            have HL := Lib.hid hL; have HG := Lib.hid hG; have HB := Lib.hid hB; have HK := Lib.hid hK; have HM := Lib.hid hm; clear hL hG hB hK hm
            by_cases hlt : q < n1
            · obtain ⟨bb, off, rfl, hbb, hC⟩ := HT.out q hlt
              have hC2 := hC.below HL.out hbb
              obtain ⟨t, ht⟩ : ∃ t, t = T q := ⟨_, rfl⟩
              rw [← ht] at hC2
              clear ht hC
              obtain ⟨tc, d, ag⟩ := t
              have c0 : wr.cell? ⟨bb, off + q * 3, none⟩ = some (.int .i64 tc) := hC2 0 _ rfl
              have c1 : wr.cell? ⟨bb, off + q * 3 + 1, none⟩ = some (.string d) := hC2 1 _ rfl
              have c2 : wr.cell? ⟨bb, off + q * 3 + 2, none⟩ = some (.bool ag) := hC2 2 _ rfl
              obtain ⟨tb, htb⟩ : ∃ tb, tb = wr.heap.size := ⟨_, rfl⟩
              have hTB := Blk.new_at wr [.int .i64 tc, .string d, .bool ag] 51 tb htb
              have hgt : gb < tb := by have := HG.out.lt; omega
              have hlt2 : lb < tb := by have := HB.out.lt; omega
              clear hC2
              go_upto_region 18 with fail
              rw [← htb]
              refine gen_world (fun v => Below w.heap.size w v ∧ Gd v gb key G ∧ Blk v lb (lastL G) 41 ∧ Blk v tb [.int .i64 tc, .string d, .bool ag] 51) ⟨HL.out.alloc HL.out.size _, Blk.alloc HG.out _, HB.out.alloc _, hTB⟩ ?_
              clear HL HG HB hTB htb c0 c1 c2
              rintro v1 ⟨hL, hG, hB, hTB⟩
              have HL := Lib.hid hL; have HG := Lib.hid hG; have HB := Lib.hid hB; have HTB := Lib.hid hTB; clear hL hG hB hTB
              have y0 := HTB.out.cell 0
              have y1 := HTB.out.cell 1
              have y2 := HTB.out.cell 2
              simp only [List.getElem?_cons_zero, List.getElem?_cons_succ] at y0 y1 y2
              by_cases hz : (2000 : Int) < d.size
              · go_wp2_with fail
                go_ret
                exact ⟨rfl, HL.out⟩
              go_upto_if 79 with fail
              clear y0 y1 y2
              go_cut [7, 8] (fun gv e wy => ∃ (gb' : Nat) (H : Gs), gv = .pointer (some ⟨gb', 0, none⟩) ∧ e = .int .i64 0 ∧ w.heap.size ≤ gb' ∧ gb' ≠ lb ∧ gb' ≠ tb ∧ Kept b s H q ∧ Below w.heap.size w wy ∧ Gd wy gb' key H ∧ Blk wy lb (lastL H) 41 ∧ Blk wy tb [.int .i64 tc, .string d, .bool ag] 51)
              case first =>
                cases ag
                case false =>
                  go_wp2_with fail
                  go_meet
                  exact ⟨gb, G, rfl, rfl, hgw, hglb, by omega, HK.out, HL.out, HG.out, HB.out, HTB.out⟩
                case true =>
                  obtain ⟨j, hrv, hj⟩ : ∃ j : Int, restV (three b s S) (2 + n2) = .tuple #[.string s, .int .i64 j] ∧ ((s = ⟨#[]⟩ ∧ j = -1) ∨ j = 1) := by
                    rcases kept_restV b s G q n2 S HK.out HN.out with ⟨h1, h2⟩ | h2
                    · exact ⟨_, h2, .inl ⟨h1, rfl⟩⟩
                    · exact ⟨_, h2, .inr rfl⟩
                  have HRV := Lib.hid hrv; have HJ := Lib.hid hj; clear hrv hj
                  have hn3 : n2 ≤ 1000000 := by omega
                  go_wp2_with (at_builtin; refine append_strs _ rfl _ _ rfl a2 n2 cap2 S b s v1.heap.size rfl rfl ?c1 hn3 ?c2 ?_)
                  case c1 => exact Blk.new v1 [.string b, .string s] 9
                  case c2 => exact HS.out.below (HL.out.alloc HL.out.size _) (Nat.le_refl _)
                  intro a' cap' wz hRz hKz
                  have hLa := HL.out.alloc HL.out.size (Obj.cells #[.string b, .string s] 9)
                  have hv1 := HL.out.size
                  have hlb1 := HB.out.lt
                  have htb1 := HTB.out.lt
                  replace HL := Lib.hid (hLa.trans (hKz.toBelowAt hLa.size (by simp; omega)))
                  replace HB := Lib.hid (Blk.keep (HB.out.alloc (Obj.cells #[.string b, .string s] 9)) hKz (by simp; omega))
                  replace HTB := Lib.hid (Blk.keep (HTB.out.alloc (Obj.cells #[.string b, .string s] 9)) hKz (by simp; omega))
                  have hre := aRestore_any a' (2 + n2) cap' (three b s S) wz (by omega) hRz (three_sizes b s S n2 G q HK.out HZ.out)
                  rw [HRV.out] at hre
                  have HRE := Lib.hid hre
                  have hHG := HG.out.lt
                  clear hre hLa hv1 hlb1 htb1 hHG hRz hKz HRV HG
                  have e0 : (s.toList != s.toList) = false := by simp
                  rcases HJ.out with ⟨hs0, rfl⟩ | rfl
                  all_goals
                    clear HJ
                    try (
                      have hse : s.toList.isEmpty = true := by rw [hs0, toList_data]; rfl
                      clear hs0)
                    go_wp2_with fail
                    refine HRE.out.mono ?_
                    rintro e w8 ⟨rfl, hL⟩
                    replace HL := Lib.hid (HL.out.trans (hL.mono HL.out.size))
                    replace HB := Lib.hid (HB.out.below hL HB.out.lt)
                    replace HTB := Lib.hid (HTB.out.below hL HTB.out.lt)
                    clear hL HRE
                    go_wp2_with fail
                    refine (HNK.out b s G q _ HK.out).mono ?_
                    rintro e w9 ⟨g2, H, rfl, hg2, hG2, hL, hK2, hll⟩
                    have hlb1 := HB.out.lt
                    have htb1 := HTB.out.lt
                    have hwg2 := Nat.le_trans HL.out.size hg2
                    replace HL := Lib.hid (HL.out.trans (hL.mono HL.out.size))
                    replace HB := Lib.hid (HB.out.below hL HB.out.lt)
                    replace HTB := Lib.hid (HTB.out.below hL HTB.out.lt)
                    have HG2 := Lib.hid hG2; have HK2 := Lib.hid hK2; have HLL := Lib.hid hll
                    clear hL hG2 hK2 hll
                    go_wp2_with fail
                    go_meet
                    exact ⟨g2, H, rfl, rfl, hwg2, by omega, by omega, HK2.out, HL.out, HG2.out, by rw [HLL.out]; exact HB.out, HTB.out⟩
              case rest =>
                clear HL HG HB HTB HK
                obtain ⟨gb', H, rfl, rfl, hgw', hglb', hgtb', hK, hL, hG, hB, hTB⟩ := hcut
                have HL := Lib.hid hL; have HG := Lib.hid hG; have HB := Lib.hid hB; have HTB := Lib.hid hTB; have HK := Lib.hid hK; clear hL hG hB hTB hK
                have y0 := HTB.out.cell 0
                have y1 := HTB.out.cell 1
                have y2 := HTB.out.cell 2
                simp only [List.getElem?_cons_zero, List.getElem?_cons_succ] at y0 y1 y2
                go_wp2_with fail
                refine (HOP.out gb' H tc d _ HG.out).mono ?_
                rintro e w8 ⟨c, sv', er, G2, hlaw, rfl, hK8, hG2⟩
                replace HL := Lib.hid (HL.out.trans (hK8.toBelowAt HL.out.size (by simp; omega)))
                replace HB := Lib.hid (HB.out.keep hK8 (by simp; omega))
                replace HTB := Lib.hid (HTB.out.keep hK8 (by simp; omega))
                replace HG := Lib.hid hG2
                clear hK8 hG2 y0 y1 y2
                rcases hlaw with ⟨he, rfl, rfl, rfl⟩ | ⟨rfl, hcok, hcc, hdl, hlt3, rfl, rfl⟩
                · have d5 : (er != 0) = true := by simpa using he
                  simp only [Cm.val, Cm.zero]
                  clear he
                  go_wp2_with fail
                  go_roundg (n1 - (q + 1))
                  case measure => have := HM.out; omega
                  case rel => exact ⟨q + 1, G2, gb', b, s, by omega, rfl, by go_num, rfl, rfl, rfl, rfl, hgw', hglb', kept_mono HK.out (by omega), HL.out.alloc HL.out.size _, Blk.alloc HG.out _, HB.out.alloc _⟩
                · obtain ⟨ch, cn, cop, car⟩ := c
                  simp only at hcc hlt3
                  have hc0 : 0 ≤ ch := hcok.1
                  have hc7 : ch ≤ 7 := hcok.2.1
                  obtain ⟨x, rfl⟩ : ∃ x : Nat, ch = x := ⟨ch.toNat, by omega⟩
                  obtain rfl : tc = (x : Int) := hcc.symm
                  have hx8 : x < 8 := by omega
                  simp only [Int.toNat_natCast] at hlt3 HG ⊢
                  simp only [Cm.val]
                  have d4 : decide (w64 cn ≤ w64 (H.l x)) = false := decide_eq_false (by unfold w64; omega)
                  have hgb8 := HG.out.lt
                  have hlb8 := HB.out.lt
                  have htb8 := HTB.out.lt
                  obtain ⟨pc, hpc⟩ : ∃ pc, pc = w8.heap.size := ⟨_, rfl⟩
                  have hC := Blk.new_at w8 [.int .i64 (x : Int), .int .u64 (w64 cn), .int .i64 cop, .string car] 24 pc hpc
                  have hlp : lb ≠ pc := by omega
                  have hgp : gb' ≠ pc := by omega
                  clear hlt3 hdl hcok hcc hgb8 hlb8 htb8
                  go_upto_region 30 with fail
                  rw [← hpc]
                  refine gen_world (fun v => Below w.heap.size w v ∧ Blk v gb' (.string key :: (H.take x cn).cells) 45 ∧ Blk v lb (lastL H) 41 ∧ Blk v tb [.int .i64 (x : Int), .string d, .bool ag] 51 ∧ Blk v pc [.int .i64 (x : Int), .int .u64 (w64 cn), .int .i64 cop, .string car] 24) ⟨HL.out.alloc HL.out.size _, Blk.alloc HG.out _, HB.out.alloc _, HTB.out.alloc _, hC⟩ ?_
                  clear HL HG HB HTB hC hpc
                  rintro v9 ⟨hL, hG, hB, hTB, hC⟩
                  have HL := Lib.hid hL; have HG := Lib.hid hG; have HB := Lib.hid hB; have HTB := Lib.hid hTB; have HC := Lib.hid hC; clear hL hG hB hTB hC
                  have y0 := HTB.out.cell 0
                  have y1 := HTB.out.cell 1
                  have y2 := HTB.out.cell 2
                  simp only [List.getElem?_cons_zero, List.getElem?_cons_succ] at y0 y1 y2
                  have z0 := HC.out.cell 0
                  have z1 := HC.out.cell 1
                  have z2 := HC.out.cell 2
                  have z3 := HC.out.cell 3
                  simp only [List.getElem?_cons_zero, List.getElem?_cons_succ] at z0 z1 z2 z3
                  have c9 := lastL_cell HB.out x hx8
                  have hx9 : 0 ≤ (x : Int) ∧ (x : Int) < 8 := by omega
                  have hx0 : (0 : Int) ≤ (x : Int) := by omega
                  have hx7 : (x : Int) < 8 := by omega
                  go_quiet (fail)
                  go_upto_region 32 with fail
                  clear y0 y1 y2 z0 z1 z2 z3 c9 d4
                  refine gen_world (fun v => Below w.heap.size w v ∧ Blk v gb' (.string key :: (H.take x cn).cells) 45 ∧ Blk v lb (lastL H) 41 ∧ Blk v pc [.int .i64 (x : Int), .int .u64 (w64 cn), .int .i64 cop, .string car] 24) ⟨HL.out.trans ((below_quiet _ _).1.mono HL.out.size), HG.out.below (below_quiet _ _).1 HG.out.lt, HB.out.below (below_quiet _ _).1 HB.out.lt, HC.out.below (below_quiet _ _).1 HC.out.lt⟩ ?_
                  clear HL HG HB HTB HC
                  rintro v10 ⟨hL, hG, hB, hC⟩
                  have HL := Lib.hid hL; have HG := Lib.hid hG; have HB := Lib.hid hB; have HC := Lib.hid hC; clear hL hG hB hC
                  have z0 := HC.out.cell 0
                  have z1 := HC.out.cell 1
                  have z2 := HC.out.cell 2
                  have z3 := HC.out.cell 3
                  simp only [List.getElem?_cons_zero, List.getElem?_cons_succ] at z0 z1 z2 z3
                  have c9 := lastL_cell HB.out x hx8
                  have f9 := HB.out.free x
                  go_wp2_with fail
                  go_roundg (n1 - (q + 1))
                  case measure => have := HM.out; omega
                  case rel => exact ⟨q + 1, H.take x cn, gb', s, _, by omega, rfl, by go_num, rfl, rfl, rfl, rfl, hgw', hglb', kept_take b s H q x cn HK.out (by omega), HL.out.setCell hwlb _, HG.out.set_far hglb' _, by rw [← lastL_set H x cn hx8]; exact HB.out.set x _⟩
            · obtain rfl : q = n1 := by omega
              go_wp2_with fail
              go_ret
              exact ⟨rfl, HL.out⟩
end Go.Proofs.Ytincoocagfegfaa
