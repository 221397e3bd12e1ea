/- What is proved here: a part of the proof of TopLink (texts T7 T9 A5). No condition. -/
import Derived.Deep.AppendLies
import Derived.Deep.RegionLaw
import Derived.Deep.LoopGhost
import Derived.BigQuiet
import Derived.Test.YtgopighmifpefaaGreatDoorPart03
import Derived.Test.YtgopighmifpefaaGreatDoorPart05
import Derived.Test.YtgopighmifpefaaGreatDoorPart06
set_option linter.unusedVariables false
set_option linter.unusedSimpArgs false
namespace Go.Proofs.YtgopighmifpefaaGreatDoor
section
open Go.RowKit
/-- A list of strings of the call's own. -/
def SRow (w : World) (base : Nat) (v : Value) (ss : List ByteArray) : Prop := w.ownsRow base 9 1 v ss.length (ss.map Value.string)
theorem srow_nil (w : World) (base : Nat) : SRow w base (.slice none 0 0) [] := ⟨rfl, .inl ⟨rfl, rfl⟩⟩
theorem info_str : (Tryz.prog.info? 9).map (fun i => (i.zero, i.size, i.bytes)) = some (some (.string .empty), 1, 16) := by kernel_rfl
def segFlag (n most k : Nat) : UInt8 := (if k = 0 then 64 else 0) ||| (if n ≤ (k + 1) * most then 128 else 0)
def seg (p : ByteArray) (most k : Nat) : ByteArray := ⟨#[segFlag p.size most k]⟩ ++ p.extract (k * most) (min ((k + 1) * most) p.size)
def segN (n most : Nat) : Nat := (n + most - 1) / most
def segList (p : ByteArray) (most k : Nat) : List ByteArray := (List.range k).map (seg p most)
theorem segList_succ (p : ByteArray) (most k : Nat) : segList p most (k + 1) = segList p most k ++ [seg p most k] := by simp [segList, List.range_succ]
theorem segN_spec (n most : Nat) (h : 1 ≤ most) (h1 : 1 ≤ n) : (segN n most - 1) * most < n ∧ n ≤ segN n most * most ∧ 1 ≤ segN n most := by
  have h2 := Nat.div_add_mod (n + most - 1) most
  have h3 := Nat.mod_lt (n + most - 1) (show 0 < most by omega)
  unfold segN
  obtain ⟨q, hq⟩ : ∃ q, q = (n + most - 1) / most := ⟨_, rfl⟩
  rw [← hq] at h2 ⊢
  have hq1 : 1 ≤ q := by rw [hq]; exact (Nat.le_div_iff_mul_le (by omega)).2 (by omega)
  obtain ⟨r, rfl⟩ : ∃ r, q = r + 1 := ⟨q - 1, by omega⟩
  have e1 : most * (r + 1) = most * r + most := Nat.mul_succ _ _
  have e2 : (r + 1) * most = most * r + most := by rw [Nat.mul_comm]; exact e1
  have e3 : (r + 1 - 1) * most = most * r := by rw [Nat.add_sub_cancel, Nat.mul_comm]
  rw [e2, e3]
  omega
theorem ext_ext (p : ByteArray) (a n : Nat) : (p.extract a p.size).extract 0 n = p.extract a (min (a + n) p.size) := by
  apply ByteArray.ext
  simp
theorem ext_drop (p : ByteArray) (a n : Nat) (hn : n ≤ p.size - a) : (p.extract a p.size).extract n (p.extract a p.size).size = p.extract (a + n) p.size := by
  apply ByteArray.ext
  simp
  rw [show min (a + (p.size - a)) p.size = p.size by omega]
theorem seg_step (p : ByteArray) (most k N a : Nat) (q : ByteArray) (fb : UInt8) (pt sc : ByteArray) (n : Nat) (hq : q = p.extract (k * most) p.size) (hqs : q.size = p.size - a) (ha : a = k * most) (ha1 : (k + 1) * most = a + most)
    (hn : n = min most q.size) (h1 : 1 ≤ q.size) (hfb : fb = (if k = 0 then 64 else 0) ||| (if q.size ≤ most then 128 else 0)) (hpt : q.extract 0 n = pt) (hsc : sc = ⟨#[fb]⟩) :
    sc ++ pt = seg p most k ∧ q.extract n q.size = p.extract ((k + 1) * most) p.size := by
  have hle : a ≤ p.size := by omega
  constructor
  · unfold seg segFlag
    rw [hsc, ← hpt, hq, ext_ext, ha1, ← ha, hfb]
    have e1 : min (a + n) p.size = min (a + most) p.size := by omega
    have e2 : (q.size ≤ most) = (p.size ≤ a + most) := by rw [eq_iff_iff]; omega
    rw [e1]
    simp only [e2]
  · rw [ha1, hq, ← ha, ext_drop p a n (by omega)]
    by_cases hl : q.size ≤ most
    · apply ByteArray.ext
      simp
      rw [Array.extract_empty_of_size_le_start (by simp; omega), Array.extract_empty_of_size_le_start (by simp; omega)]
    · rw [show n = most by omega]
theorem fl_or (k : Nat) : bits .or .u8 (((if k = 0 then (64 : UInt8) else 0).toNat : Nat) : Int) 128 = ((((if k = 0 then (64 : UInt8) else 0) ||| 128).toNat : Nat) : Int) := by split <;> decide
set_option maxHeartbeats 4000000 in
set_option maxRecDepth 100000 in
theorem Segments_ok (p : ByteArray) (most : Nat) (w : World) (hp1 : 1 ≤ p.size) (hp2 : p.size ≤ 1030) (hm1 : 1 ≤ most) (hm2 : most ≤ 199) :
    Calls Tryz.prog 45 #[.string p, .int .i64 most] w fun e w' => ∃ v, e = .returned (.tuple #[v, .int .i64 0]) ∧ SRow w' w.heap.size v (segList p most (segN p.size most)) ∧ Below w.heap.size w w' := by
  obtain ⟨N, hN⟩ : ∃ N, N = segN p.size most := ⟨_, rfl⟩
  obtain ⟨n1, n2, n3⟩ := segN_spec p.size most hm1 hp1
  rw [← hN] at n1 n2 n3 ⊢
  clear hN
  have d1 : decide (1030 < (p.size : Int)) = false := by simp; omega
  have d2 : decide ((most : Int) < 1) = false := by simp; omega
  have d3 : decide (199 < (most : Int)) = false := by simp; omega
  have he := not_empty_of p hp1
  have he2 := not_empty_eq p hp1
  have hM := Lib.hid (And.intro n1 n2)
  have hN2 : N ≤ 1031 := by have := Nat.le_mul_of_pos_right (N - 1) (show 0 < most by omega); omega
  clear n1 n2
  go_enter Tryz.func45, Tryz.ntmps45
  go_wp2_with fail
  go_loopg [0, 6, 7] N (fun m q out fl wr => ∃ k : Nat, k ≤ N ∧ m = N - k ∧ q = .string (p.extract (k * most) p.size) ∧ fl = .int .u8 ((if k = 0 then (64 : UInt8) else 0).toNat : Int) ∧ Below w.heap.size w wr ∧ SRow wr w.heap.size out (segList p most k))
  case atStart => exact ⟨0, by omega, by omega, by simp, by simp, Below.refl _ _, srow_nil _ _⟩
  case round =>
    obtain ⟨k, hk, hm, rfl, rfl, hL, hR⟩ := hrel
    have HL := Lib.hid hL; have HR := Lib.hid hR; clear hL hR
    obtain ⟨a, ha⟩ : ∃ a, a = k * most := ⟨_, rfl⟩
    have ha1 : (k + 1) * most = a + most := by rw [Nat.succ_mul, ha]
    obtain ⟨q, hq⟩ : ∃ q, q = p.extract (k * most) p.size := ⟨_, rfl⟩
    rw [← hq]
    have hqs : q.size = p.size - a := by rw [hq, ha]; simp
    by_cases hlt : k < N
    · have hkn : k * most ≤ (N - 1) * most := Nat.mul_le_mul_right _ (by omega)
      have hM1 := hM.out.1
      have hq1 : 1 ≤ q.size := by rw [hqs]; omega
      have hq2 : q.size ≤ 1030 := by rw [hqs]; omega
      have qe := not_empty_of q hq1
      have qe2 := not_empty_eq q hq1
      have HQ := Lib.hid hq; have HQS := Lib.hid hqs; have HA := Lib.hid ha; have HA1 := Lib.hid ha1
      clear hq hqs ha ha1 hkn hM1
      obtain ⟨fl, hfl⟩ : ∃ fl : UInt8, fl = (if k = 0 then 64 else 0) := ⟨_, rfl⟩
      rw [← hfl]
      have HFL := Lib.hid hfl; clear hfl
      rcases Nat.lt_trichotomy most q.size with hc | hc | hc
      · have hne : ((most : Int) == (q.size : Int)) = false := by simp; omega
        have hle : most ≤ q.size := by omega
        obtain ⟨fb, hfb⟩ : ∃ fb : UInt8, fb = fl := ⟨_, rfl⟩
        have HFB := Lib.hid (show fb = (if k = 0 then 64 else 0) ||| (if q.size ≤ most then 128 else 0) by rw [hfb, HFL.out, if_neg (show ¬ q.size ≤ most by omega)]; simp)
        subst hfb
        obtain ⟨sc, hsc⟩ : ∃ sc : ByteArray, sc = ⟨#[fb]⟩ := ⟨_, rfl⟩
        have hb3 : ∀ W : World, (convert 97 9 (.slice (some ⟨W.heap.size, 0, none⟩) 1 1)).run Tryz.prog (W.alloc (.cells #[.int .u8 (fb.toNat : Int)] 5)).drew = .ok (.string sc) (W.alloc (.cells #[.int .u8 (fb.toNat : Int)] 5)).drew := fun W => by
          have := run_string (w := (W.alloc (.cells #[.int .u8 (fb.toNat : Int)] 5)).drew) (base := W.heap.size) (v := .slice (some ⟨W.heap.size, 0, none⟩) 1 1) (xs := [fb]) (.inr ⟨W.heap.size, 1, _, _, rfl, Nat.le_refl _, (Blk.new W [.int .u8 (fb.toNat : Int)] 5).drew, .inl rfl, Nat.le_refl _, by decide, rfl, rfl⟩)
          rw [this, hsc]
        obtain ⟨pt, hpt⟩ : ∃ pt, q.extract 0 most = pt := ⟨_, rfl⟩
        have hpz : pt.size ≤ 1030 := by rw [← hpt]; simp; omega
        have hsz : sc.size ≤ 1 := by rw [hsc]; exact Nat.le_refl _
        have hcn : ¬ (9223372036854775807 < sc.size + pt.size) := by omega
        have hcn2 : ¬ (9223372036854775807 < (sc.size : Int) + (pt.size : Int)) := by omega
        have hown := ownsRow_keep HR.out ((((Keep.refl [] wr).alloc (.cells #[.int .u8 (fb.toNat : Int)] 5)).alloc (.cells #[.string (sc ++ pt)] 9)).drew) (by simp)
        obtain ⟨i0, hi, hz0, hz1, hz2⟩ := info_parts info_str
        have hnews : ∀ j u, [Value.string (sc ++ pt)][j]? = some u → (((wr.alloc (.cells #[.int .u8 (fb.toNat : Int)] 5)).alloc (.cells #[.string (sc ++ pt)] 9)).drew).cell? ((⟨wr.heap.size + 1, 0, none⟩ : Addr).add j) = some u := by
          have hb := (Blk.new_at (wr.alloc (.cells #[.int .u8 (fb.toNat : Int)] 5)) [.string (sc ++ pt)] 9 (wr.heap.size + 1) (by simp)).drew
          exact World.news_of_block hb
        have hone : ∀ u ∈ [Value.string (sc ++ pt)], u.oneCell' = true := by intro u hu; simp at hu; subst hu; rfl
        have hk2 : (segList p most k).length = k := by simp [segList]
        have h63 : (segList p most k).length + 1 ≤ maxLen := by rw [hk2]; unfold maxLen; omega
        have hbytes : ((segList p most k).length + 1) * 16 ≤ 140737488355328 := by rw [hk2]; omega
        have hbase : w.heap.size ≤ (((wr.alloc (.cells #[.int .u8 (fb.toNat : Int)] 5)).alloc (.cells #[.string (sc ++ pt)] 9)).drew).heap.size := by have := HL.out.size; simp; omega
        have hHs : (((wr.alloc (.cells #[.int .u8 (fb.toNat : Int)] 5)).alloc (.cells #[.string (sc ++ pt)] 9)).drew).heap.size = wr.heap.size + 2 := by simp
        have HSC := Lib.hid hsc; have HPT := Lib.hid hpt; clear hsc
        go_wp2_with fail
        go_region_law (refine step_append_lies _ rfl _ _ 33 rfl w.heap.size 9 i0 (.string .empty) 1 16 Tryz.underlying33 hi hz0 hz1 hz2 rfl (by omega) u6 (segList p most k).length ((segList p most k).map Value.string) rfl hown ⟨wr.heap.size + 1, 0, none⟩ 1 1 [.string (sc ++ pt)] rfl rfl hnews hone (by omega) h63 hbytes hbase (wr.heap.size + 2) hHs (fun g cap w' h2 h3 h4 h5 => ?_))
        have hpc := seg_step p most k N a q fb pt sc most HQ.out HQS.out HA.out HA1.out (by omega) hq1 HFB.out HPT.out HSC.out
        have hlen : (segList p most (k + 1)).length = k + 1 := by simp [segList]
        have hR' : SRow w' w.heap.size (.slice (some ⟨g, 0, none⟩) (k + 1) cap) (segList p most (k + 1)) := by
          unfold SRow
          rw [hlen, segList_succ, List.map_append]
          rw [hpc.1, hk2] at h2
          exact h2
        have hL' : Below w.heap.size w w' := HL.out.trans ((((((Keep.refl (Value.ownBlock u6).toList wr).alloc _).alloc _).drew).trans (Keep.ofGrownV h3 (fun x hx => by rw [hx]; simp))).toBelowAt HL.out.size (fun x hx => by
          rw [Option.mem_toList] at hx
          rcases HR.out.2 with ⟨e1, _⟩ | ⟨g', cap', cur', e1, e2, _⟩
          · rw [e1] at hx; cases hx
          · rw [e1] at hx; injection hx with hx; subst hx; exact e2))
        have HR' := Lib.hid hR'; have HL' := Lib.hid hL'; have HPC := Lib.hid hpc
        clear hR' hL' hpc h2 h3 h4 h5 hown hnews hone hHs hbase
        go_wp2_with fail
        go_roundg (N - (k + 1))
        case measure => omega
        case rel =>
          refine ⟨k + 1, by omega, rfl, ?_, ?_, HL'.out, ?_⟩
          · rw [← HPC.out.2]
            first
              | done
              | (congr 1; apply ByteArray.ext; simp; done)
          · simp
          · exact HR'.out
      · have hne : ((most : Int) == (q.size : Int)) = true := by simp; omega
        have hle : most ≤ q.size := by omega
        have hle2 : q.size ≤ most := by omega
        clear hc
        obtain ⟨fb, hfb⟩ : ∃ fb : UInt8, fb = (if k = 0 then 64 else 0) ||| 128 := ⟨_, rfl⟩
        have hbo : bits .or .u8 ((fl.toNat : Nat) : Int) 128 = ((fb.toNat : Nat) : Int) := by rw [hfb, HFL.out]; exact fl_or k
        have HFB := Lib.hid (show fb = (if k = 0 then 64 else 0) ||| (if q.size ≤ most then 128 else 0) by rw [hfb, if_pos (show q.size ≤ most by omega)])
        clear hfb
        obtain ⟨sc, hsc⟩ : ∃ sc : ByteArray, sc = ⟨#[fb]⟩ := ⟨_, rfl⟩
        have hb3 : ∀ W : World, (convert 97 9 (.slice (some ⟨W.heap.size, 0, none⟩) 1 1)).run Tryz.prog (W.alloc (.cells #[.int .u8 (fb.toNat : Int)] 5)).drew = .ok (.string sc) (W.alloc (.cells #[.int .u8 (fb.toNat : Int)] 5)).drew := fun W => by
          have := run_string (w := (W.alloc (.cells #[.int .u8 (fb.toNat : Int)] 5)).drew) (base := W.heap.size) (v := .slice (some ⟨W.heap.size, 0, none⟩) 1 1) (xs := [fb]) (.inr ⟨W.heap.size, 1, _, _, rfl, Nat.le_refl _, (Blk.new W [.int .u8 (fb.toNat : Int)] 5).drew, .inl rfl, Nat.le_refl _, by decide, rfl, rfl⟩)
          rw [this, hsc]
        obtain ⟨pt, hpt⟩ : ∃ pt, q.extract 0 most = pt := ⟨_, rfl⟩
        have hpz : pt.size ≤ 1030 := by rw [← hpt]; simp; omega
        have hsz : sc.size ≤ 1 := by rw [hsc]; exact Nat.le_refl _
        have hcn : ¬ (9223372036854775807 < sc.size + pt.size) := by omega
        have hcn2 : ¬ (9223372036854775807 < (sc.size : Int) + (pt.size : Int)) := by omega
        have hown := ownsRow_keep HR.out ((((Keep.refl [] wr).alloc (.cells #[.int .u8 (fb.toNat : Int)] 5)).alloc (.cells #[.string (sc ++ pt)] 9)).drew) (by simp)
        obtain ⟨i0, hi, hz0, hz1, hz2⟩ := info_parts info_str
        have hnews : ∀ j u, [Value.string (sc ++ pt)][j]? = some u → (((wr.alloc (.cells #[.int .u8 (fb.toNat : Int)] 5)).alloc (.cells #[.string (sc ++ pt)] 9)).drew).cell? ((⟨wr.heap.size + 1, 0, none⟩ : Addr).add j) = some u := by
          have hb := (Blk.new_at (wr.alloc (.cells #[.int .u8 (fb.toNat : Int)] 5)) [.string (sc ++ pt)] 9 (wr.heap.size + 1) (by simp)).drew
          exact World.news_of_block hb
        have hone : ∀ u ∈ [Value.string (sc ++ pt)], u.oneCell' = true := by intro u hu; simp at hu; subst hu; rfl
        have hk2 : (segList p most k).length = k := by simp [segList]
        have h63 : (segList p most k).length + 1 ≤ maxLen := by rw [hk2]; unfold maxLen; omega
        have hbytes : ((segList p most k).length + 1) * 16 ≤ 140737488355328 := by rw [hk2]; omega
        have hbase : w.heap.size ≤ (((wr.alloc (.cells #[.int .u8 (fb.toNat : Int)] 5)).alloc (.cells #[.string (sc ++ pt)] 9)).drew).heap.size := by have := HL.out.size; simp; omega
        have hHs : (((wr.alloc (.cells #[.int .u8 (fb.toNat : Int)] 5)).alloc (.cells #[.string (sc ++ pt)] 9)).drew).heap.size = wr.heap.size + 2 := by simp
        have HSC := Lib.hid hsc; have HPT := Lib.hid hpt; clear hsc
        go_wp2_with fail
        go_region_law (refine step_append_lies _ rfl _ _ 33 rfl w.heap.size 9 i0 (.string .empty) 1 16 Tryz.underlying33 hi hz0 hz1 hz2 rfl (by omega) u6 (segList p most k).length ((segList p most k).map Value.string) rfl hown ⟨wr.heap.size + 1, 0, none⟩ 1 1 [.string (sc ++ pt)] rfl rfl hnews hone (by omega) h63 hbytes hbase (wr.heap.size + 2) hHs (fun g cap w' h2 h3 h4 h5 => ?_))
        have hpc := seg_step p most k N a q fb pt sc most HQ.out HQS.out HA.out HA1.out (by omega) hq1 HFB.out HPT.out HSC.out
        have hlen : (segList p most (k + 1)).length = k + 1 := by simp [segList]
        have hR' : SRow w' w.heap.size (.slice (some ⟨g, 0, none⟩) (k + 1) cap) (segList p most (k + 1)) := by
          unfold SRow
          rw [hlen, segList_succ, List.map_append]
          rw [hpc.1, hk2] at h2
          exact h2
        have hL' : Below w.heap.size w w' := HL.out.trans ((((((Keep.refl (Value.ownBlock u6).toList wr).alloc _).alloc _).drew).trans (Keep.ofGrownV h3 (fun x hx => by rw [hx]; simp))).toBelowAt HL.out.size (fun x hx => by
          rw [Option.mem_toList] at hx
          rcases HR.out.2 with ⟨e1, _⟩ | ⟨g', cap', cur', e1, e2, _⟩
          · rw [e1] at hx; cases hx
          · rw [e1] at hx; injection hx with hx; subst hx; exact e2))
        have HR' := Lib.hid hR'; have HL' := Lib.hid hL'; have HPC := Lib.hid hpc
        clear hR' hL' hpc h2 h3 h4 h5 hown hnews hone hHs hbase
        go_wp2_with fail
        go_roundg (N - (k + 1))
        case measure => omega
        case rel =>
          refine ⟨k + 1, by omega, rfl, ?_, ?_, HL'.out, ?_⟩
          · rw [← HPC.out.2]
            first
              | done
              | (congr 1; apply ByteArray.ext; simp; done)
          · simp
          · exact HR'.out
      · have hle : q.size ≤ q.size := Nat.le_refl _
        obtain ⟨fb, hfb⟩ : ∃ fb : UInt8, fb = (if k = 0 then 64 else 0) ||| 128 := ⟨_, rfl⟩
        have hbo : bits .or .u8 ((fl.toNat : Nat) : Int) 128 = ((fb.toNat : Nat) : Int) := by rw [hfb, HFL.out]; exact fl_or k
        have HFB := Lib.hid (show fb = (if k = 0 then 64 else 0) ||| (if q.size ≤ most then 128 else 0) by rw [hfb, if_pos (show q.size ≤ most by omega)])
        clear hfb
        obtain ⟨sc, hsc⟩ : ∃ sc : ByteArray, sc = ⟨#[fb]⟩ := ⟨_, rfl⟩
        have hb3 : ∀ W : World, (convert 97 9 (.slice (some ⟨W.heap.size, 0, none⟩) 1 1)).run Tryz.prog (W.alloc (.cells #[.int .u8 (fb.toNat : Int)] 5)).drew = .ok (.string sc) (W.alloc (.cells #[.int .u8 (fb.toNat : Int)] 5)).drew := fun W => by
          have := run_string (w := (W.alloc (.cells #[.int .u8 (fb.toNat : Int)] 5)).drew) (base := W.heap.size) (v := .slice (some ⟨W.heap.size, 0, none⟩) 1 1) (xs := [fb]) (.inr ⟨W.heap.size, 1, _, _, rfl, Nat.le_refl _, (Blk.new W [.int .u8 (fb.toNat : Int)] 5).drew, .inl rfl, Nat.le_refl _, by decide, rfl, rfl⟩)
          rw [this, hsc]
        obtain ⟨pt, hpt⟩ : ∃ pt, q.extract 0 q.size = pt := ⟨_, rfl⟩
        have hpz : pt.size ≤ 1030 := by rw [← hpt]; simp; omega
        have hsz : sc.size ≤ 1 := by rw [hsc]; exact Nat.le_refl _
        have hcn : ¬ (9223372036854775807 < sc.size + pt.size) := by omega
        have hcn2 : ¬ (9223372036854775807 < (sc.size : Int) + (pt.size : Int)) := by omega
        have hown := ownsRow_keep HR.out ((((Keep.refl [] wr).alloc (.cells #[.int .u8 (fb.toNat : Int)] 5)).alloc (.cells #[.string (sc ++ pt)] 9)).drew) (by simp)
        obtain ⟨i0, hi, hz0, hz1, hz2⟩ := info_parts info_str
        have hnews : ∀ j u, [Value.string (sc ++ pt)][j]? = some u → (((wr.alloc (.cells #[.int .u8 (fb.toNat : Int)] 5)).alloc (.cells #[.string (sc ++ pt)] 9)).drew).cell? ((⟨wr.heap.size + 1, 0, none⟩ : Addr).add j) = some u := by
          have hb := (Blk.new_at (wr.alloc (.cells #[.int .u8 (fb.toNat : Int)] 5)) [.string (sc ++ pt)] 9 (wr.heap.size + 1) (by simp)).drew
          exact World.news_of_block hb
        have hone : ∀ u ∈ [Value.string (sc ++ pt)], u.oneCell' = true := by intro u hu; simp at hu; subst hu; rfl
        have hk2 : (segList p most k).length = k := by simp [segList]
        have h63 : (segList p most k).length + 1 ≤ maxLen := by rw [hk2]; unfold maxLen; omega
        have hbytes : ((segList p most k).length + 1) * 16 ≤ 140737488355328 := by rw [hk2]; omega
        have hbase : w.heap.size ≤ (((wr.alloc (.cells #[.int .u8 (fb.toNat : Int)] 5)).alloc (.cells #[.string (sc ++ pt)] 9)).drew).heap.size := by have := HL.out.size; simp; omega
        have hHs : (((wr.alloc (.cells #[.int .u8 (fb.toNat : Int)] 5)).alloc (.cells #[.string (sc ++ pt)] 9)).drew).heap.size = wr.heap.size + 2 := by simp
        have HSC := Lib.hid hsc; have HPT := Lib.hid hpt; clear hsc
        go_wp2_with fail
        go_region_law (refine step_append_lies _ rfl _ _ 33 rfl w.heap.size 9 i0 (.string .empty) 1 16 Tryz.underlying33 hi hz0 hz1 hz2 rfl (by omega) u6 (segList p most k).length ((segList p most k).map Value.string) rfl hown ⟨wr.heap.size + 1, 0, none⟩ 1 1 [.string (sc ++ pt)] rfl rfl hnews hone (by omega) h63 hbytes hbase (wr.heap.size + 2) hHs (fun g cap w' h2 h3 h4 h5 => ?_))
        have hpc := seg_step p most k N a q fb pt sc q.size HQ.out HQS.out HA.out HA1.out (by omega) hq1 HFB.out HPT.out HSC.out
        have hlen : (segList p most (k + 1)).length = k + 1 := by simp [segList]
        have hR' : SRow w' w.heap.size (.slice (some ⟨g, 0, none⟩) (k + 1) cap) (segList p most (k + 1)) := by
          unfold SRow
          rw [hlen, segList_succ, List.map_append]
          rw [hpc.1, hk2] at h2
          exact h2
        have hL' : Below w.heap.size w w' := HL.out.trans ((((((Keep.refl (Value.ownBlock u6).toList wr).alloc _).alloc _).drew).trans (Keep.ofGrownV h3 (fun x hx => by rw [hx]; simp))).toBelowAt HL.out.size (fun x hx => by
          rw [Option.mem_toList] at hx
          rcases HR.out.2 with ⟨e1, _⟩ | ⟨g', cap', cur', e1, e2, _⟩
          · rw [e1] at hx; cases hx
          · rw [e1] at hx; injection hx with hx; subst hx; exact e2))
        have HR' := Lib.hid hR'; have HL' := Lib.hid hL'; have HPC := Lib.hid hpc
        clear hR' hL' hpc h2 h3 h4 h5 hown hnews hone hHs hbase
        go_wp2_with fail
        go_roundg (N - (k + 1))
        case measure => omega
        case rel =>
          refine ⟨k + 1, by omega, rfl, ?_, ?_, HL'.out, ?_⟩
          · rw [← HPC.out.2]
            first
              | done
              | (congr 1; apply ByteArray.ext; simp; done)
          · simp
          · exact HR'.out
    · obtain rfl : k = N := by omega
      have hM2 := hM.out.2
      have hq0 : q.size = 0 := by rw [hqs, ha]; omega
      have qe := empty_of q hq0
      have qe2 := empty_eq q hq0
      have HQ := Lib.hid hq; clear hq hqs hq0 ha ha1 hM2
      go_wp2_with fail
      go_ret2
      exact ⟨_, rfl, HR.out, HL.out⟩
end
section
open Go.RowKit
theorem srow_form {w : World} {base : Nat} {v : Value} {ss : List ByteArray} (h : SRow w base v ss) : ∃ a cap, v = .slice a ss.length cap ∧ ∀ i, i < ss.length → ∃ g, a = some ⟨g, 0, none⟩ ∧ w.cell? ⟨g, i, none⟩ = some (.string (ss.getD i .empty)) := by
  obtain ⟨h1, h2 | ⟨g, cap, cur, rfl, hb, hg, hc, hm, hcs, ht⟩⟩ := h
  · exact ⟨none, 0, by rw [h2.1, h2.2], fun i hi => by omega⟩
  · refine ⟨some ⟨g, 0, none⟩, cap, rfl, fun i hi => ⟨g, rfl, ?_⟩⟩
    have hi2 : i < cur.size := by omega
    rw [cell_of_row w g i cur _ _ hg]
    have : (cur.toList.take (ss.length * 1))[i]? = (ss.map Value.string)[i]? := by rw [ht]
    rw [List.getElem?_take_of_lt (by omega)] at this
    simp only [Array.getElem?_toList] at this
    rw [this, List.getElem?_map, List.getElem?_eq_getElem hi]
    simp [List.getD, hi]
end
section
open Go.RowKit
theorem store_fn {w : World} {g : Nat} {cs : List Value} {t : TypeId} (hB : Blk w g cs t) (i : Nat) (f : Fn) {v : Value} (h : cs[i]? = some v) : (store ⟨g, i, none⟩ (.func f #[] #[])).run Tryz.prog w = .ok () (w.setCell ⟨g, i, none⟩ (.func f #[] #[])) := by
  have c0 := hB.cell i
  have f0 := hB.free i
  rw [h] at c0
  rw [run_store _ _ _ _ _ rfl]
  simp [c0, f0]
set_option maxHeartbeats 4000000 in
set_option maxRecDepth 100000 in
theorem steps_any (w : World) : Calls Tryz.prog 99 #[] w fun e w' => e = .returned (.agg #[.func (.func 110) #[] #[], .func (.func 111) #[] #[], .func (.func 112) #[] #[], .func (.func 113) #[] #[]]) ∧ w' = w.alloc (Obj.cells #[.func (.func 110) #[] #[], .func (.func 111) #[] #[], .func (.func 112) #[] #[], .func (.func 113) #[] #[]] 177) := by
  have HB := Lib.hid (Blk.new w [.nilFunc, .nilFunc, .nilFunc, .nilFunc] 177)
  go_enter Tryz.func99, Tryz.ntmps99
  go_wp2_with fail
  rw [store_fn HB.out 0 _ rfl]
  simp only [Result.andThen]
  rw [store_fn (HB.out.set 0 _) 1 _ rfl]
  simp only [Result.andThen]
  rw [store_fn ((HB.out.set 0 _).set 1 _) 2 _ rfl]
  simp only [Result.andThen]
  rw [store_fn (((HB.out.set 0 _).set 1 _).set 2 _) 3 _ rfl]
  simp only [Result.andThen]
  go_wp2_with fail
  refine ret_cell rfl w.heap.size 177 [.func (.func 110) #[] #[], .func (.func 111) #[] #[], .func (.func 112) #[] #[], .func (.func 113) #[] #[]] rfl (Blk.new w _ _) Tryz.underlying177 rfl (by kernel_rfl) rfl ?_
  exact ⟨rfl, rfl⟩
end
end Go.Proofs.YtgopighmifpefaaGreatDoor
