/- What is proved here: the walk of the reference's Get of units. -/
import Derived.Test.YtkpgenmlpkfokaaN26
import Derived.Test.YtkpgenmlpkfokaaRet
set_option linter.unusedVariables false
set_option linter.unusedSimpArgs false
namespace Go.Proofs.Ytkpgenmlpkfokaa
open Go.RowKit
/-- What the reference reads of a kind. -/
def looseU (k : Nat) (u : Un) (s : ByteArray) : Un :=
  match k with
  | 1 => { u with size := (vnum s 3 2 : Int), name := vrst s 5 }
  | 2 => { u with off := (vnum s 3 2 : Int), data := vrst s 5 }
  | 3 => { u with why := (vnum s 3 1 : Int), size := (vnum s 4 2 : Int), sum := (vnum s 6 4 : Int) }
  | 4 => { u with why := (vnum s 3 1 : Int) }
  | 5 => { u with meta_ := vnum s 3 1 == 1, gaps := (List.range ((s.size - 4) / 4)).map fun i => ((vnum s (4 + 4 * i) 2 : Int), (vnum s (4 + 4 * i + 2) 2 : Int)) }
  | 6 => { u with ans := (vnum s 3 1 : Int) }
  | _ => u
def kindOf (s : ByteArray) : Nat := (s.data.toList.headD 0).toNat
def vGetU (s : ByteArray) : Un := looseU (kindOf s) { Un.zero with kind := (kindOf s : Int), num := (vnum s 1 2 : Int) } s
def vGetS (b : ByteArray) : Un × Int :=
  if ¬ (6 ≤ b.size ∧ b.size ≤ 167) then (Un.zero, 6)
  else if ¬ ((vnum b (b.size - 2) 2 : Int) = w16 (sum16 (b.extract 0 (b.size - 2)).data.toList)) then (Un.zero, 370)
  else if putS (vGetU (b.extract 0 (b.size - 2))) = (b.data.toList, 0) then (vGetU (b.extract 0 (b.size - 2)), 0) else (Un.zero, 6)
def VPost (b : ByteArray) (w : World) (e : Ending) (w' : World) : Prop := ∃ gv, e = .returned (.tuple #[(vGetS b).1.val gv, .int .i64 (vGetS b).2]) ∧ GapsAt w' gv (vGetS b).1.gaps ∧ Below w.heap.size w w'
theorem vPost_err {b : ByteArray} {w w' : World} {x : Int} (h : vGetS b = (Un.zero, x)) (hL : Below w.heap.size w w') : VPost b w (.returned (.tuple #[Un.zero.val (.slice none 0 0), .int .i64 x])) w' := by
  refine ⟨.slice none 0 0, ?_, ?_, hL⟩
  · rw [h]
  · rw [h]; exact GapsAt.nil w'
theorem vrst_size (s : ByteArray) (n : Nat) : (vrst s n).size ≤ s.size := by unfold vrst; rw [ext_size]; omega
theorem looseU_fine (k nu : Nat) (s : ByteArray) (hs : s.size ≤ 1000) (hk : k < 256) (hn : nu < 4294967296) : (looseU k ⟨(k : Int), (nu : Int), ⟨#[]⟩, 0, 0, 0, ⟨#[]⟩, 0, 0, false, []⟩ s).name.size ≤ 100000 ∧ (looseU k ⟨(k : Int), (nu : Int), ⟨#[]⟩, 0, 0, 0, ⟨#[]⟩, 0, 0, false, []⟩ s).data.size ≤ 100000 ∧ (looseU k ⟨(k : Int), (nu : Int), ⟨#[]⟩, 0, 0, 0, ⟨#[]⟩, 0, 0, false, []⟩ s).gaps.length ≤ 1000 ∧ intsU (looseU k ⟨(k : Int), (nu : Int), ⟨#[]⟩, 0, 0, 0, ⟨#[]⟩, 0, 0, false, []⟩ s) := by
  have h5 := vrst_size s 5
  have v1 := vnum_lt s 3 2 (by omega)
  have v2 := vnum_lt s 3 1 (by omega)
  have v3 := vnum_lt s 4 2 (by omega)
  have v4 := vnum_lt s 6 4 (by omega)
  have e0 : (⟨#[]⟩ : ByteArray).size = 0 := rfl
  unfold looseU intsU
  split
  all_goals
    simp only [List.length_map, List.length_range, List.length_nil, e0]
    refine ⟨by omega, by omega, by omega, by omega, by omega, by omega, by omega, by omega, by omega, by omega, by omega, by omega, by omega, by omega, by omega, by omega, by omega, ?_⟩
    intro i hi
    first
    | (simp at hi; done)
    | (have w1 := vnum_lt s (4 + 4 * i) 2 (by omega)
       have w2 := vnum_lt s (4 + 4 * i + 2) 2 (by omega)
       simp only [List.getElem_map, List.getElem_range]
       omega)
/-- The gaps that the reference reads. -/
def gl (s : ByteArray) (n : Nat) : List Gp := (List.range n).map fun i => ((vnum s (4 + 4 * i) 2 : Int), (vnum s (4 + 4 * i + 2) 2 : Int))
theorem gl_length (s : ByteArray) (n : Nat) : (gl s n).length = n := by simp [gl]
theorem gl_snoc (s : ByteArray) (n : Nat) : gl s (n + 1) = gl s n ++ [((vnum s (4 + 4 * n) 2 : Int), (vnum s (4 + 4 * n + 2) 2 : Int))] := by simp [gl, List.range_succ]
theorem looseU_other (k : Nat) (u : Un) (s : ByteArray) (h : k = 0 ∨ 6 < k) : looseU k u s = u := by
  unfold looseU
  split <;> first | rfl | omega
theorem vnumber_new (b : ByteArray) (a m : Nat) (w : World) (hb : b.size ≤ 1000000) (ha : a ≤ 1000000) (hm : m ≤ 4) : Calls Try.prog 35 #[.string b, .int .i64 (a : Int), .int .i64 (m : Int)] w fun e w' => ∃ v, e = .returned v ∧ (v = .int .i64 (vnum b a m : Int) ∧ w = w') :=
  (vnumber_any b a m w hb ha hm).mono fun e w' h => ⟨_, h.1, rfl, h.2⟩
set_option maxHeartbeats 4000000 in
set_option maxRecDepth 100000 in
theorem vGet_out (b : ByteArray) (w : World) (h : ¬ (6 ≤ b.size ∧ b.size ≤ 167)) : Calls Try.prog 18 #[.string b] w (VPost b w) := by
  have HG := Lib.hid (show vGetS b = (Un.zero, 6) by rw [vGetS, if_pos h])
  by_cases h1 : b.size < 6
  · have d1 : (b.size : Int) < 6 := by omega
    clear h
    go_enter Try.func18, Try.ntmps18
    go_wp2_with fail
    refine ret_cell_tmp rfl w.heap.size 25 (Un.zero.cells (.slice none 0 0)) rfl (Blk.new w _ _) Try.underlying25 rfl (by kernel_rfl) rfl ?_
    exact vPost_err HG.out ((Below.refl _ _).alloc (Nat.le_refl _) _)
  · have d1 : ¬ (b.size : Int) < 6 := by omega
    have d2 : (167 : Int) < b.size := by omega
    clear h
    go_enter Try.func18, Try.ntmps18
    go_wp2_with fail
    refine ret_cell_tmp rfl w.heap.size 25 (Un.zero.cells (.slice none 0 0)) rfl (Blk.new w _ _) Try.underlying25 rfl (by kernel_rfl) rfl ?_
    exact vPost_err HG.out ((Below.refl _ _).alloc (Nat.le_refl _) _)
set_option maxHeartbeats 4000000 in
set_option maxRecDepth 100000 in
theorem vGet_sum (b : ByteArray) (w : World) (h : 6 ≤ b.size ∧ b.size ≤ 167) (h2 : ¬ ((vnum b (b.size - 2) 2 : Int) = w16 (sum16 (b.extract 0 (b.size - 2)).data.toList))) : Calls Try.prog 18 #[.string b] w (VPost b w) := by
  have HG := Lib.hid (show vGetS b = (Un.zero, 370) by rw [vGetS, if_neg (by simpa using h), if_pos h2])
  obtain ⟨n, hn⟩ : ∃ n, n = b.size - 2 := ⟨_, rfl⟩
  obtain ⟨hb6, hb167⟩ := h
  have HMI := Lib.hid (show (b.size : Int) - 2 = (n : Int) by omega)
  have hn1 : n ≤ 165 := by omega
  have hn2 : 4 ≤ n := by omega
  have hnb : n ≤ b.size := by omega
  have hnb' : (n : Int) ≤ (b.size : Int) := by omega
  obtain ⟨s, hs⟩ : ∃ s, s = b.extract 0 n := ⟨_, rfl⟩
  have hss : s.size = n := by rw [hs]; simp; omega
  have hsz : s.size ≤ 165 := by omega
  have hsz4 : 4 ≤ s.size := by omega
  obtain ⟨x16, hx16⟩ : ∃ x, x = sum16 s.data.toList := ⟨_, rfl⟩
  obtain ⟨nm2, hnm2⟩ : ∃ x, x = vnum b n 2 := ⟨_, rfl⟩
  have q0 := w16_nonneg x16
  have q1 := w16_lt x16
  have hwh : IntKind.i64.wrap (w16 x16) = w16 x16 := IntWalk.i64_in _ (by omega)
  have H16 := Lib.hid (fun W => rSum16 s W (by omega))
  have HNB := Lib.hid (fun W => vnumber_any b n 2 W (by omega) (by omega) (by omega))
  rw [← hx16] at H16
  rw [← hnm2] at HNB
  have HS := Lib.hid hs; have HSS := Lib.hid hss
  have hse : b.extract 0 n = s := hs.symm
  have dq : (((nm2 : Nat) : Int) != w16 x16) = true := by
    rw [bne_iff_ne, hnm2, hx16, hs, hn]; exact h2
  clear h2 hn hs hss hx16 hnm2
  have d1 : ¬ (b.size : Int) < 6 := by omega
  have d2 : ¬ (167 : Int) < b.size := by omega
  go_enter Try.func18, Try.ntmps18
  go_upto_region 4 with fail
  rw [HMI.out]
  refine gen_world (fun w' => Blk w' w.heap.size (Un.zero.cells (.slice none 0 0)) 25 ∧ Below w.heap.size w w') ⟨Blk.new w _ _, (Below.refl _ _).alloc (Nat.le_refl _) _⟩ ?_
  rintro v ⟨hU, hL⟩
  have HU := Lib.hid hU; have HL := Lib.hid hL
  clear hU hL
  refine region_calm v.heap.size (by kernel_rfl) (by kernel_rfl) ?_
  repeat (go_big_quiet_step ((first | (go_at_call 35; exact cl_call_same _ (HNB.out _)) | (go_at_call 28; exact cl_call_same _ (H16.out _)))))
  refine wpQuiet_nil ?_
  intro v1 hL1
  replace HU := Lib.hid (HU.out.below hL1 HU.out.lt)
  replace HL := Lib.hid (HL.out.trans (hL1.mono HL.out.size))
  clear hL1 q0 q1 hwh hse
  go_wp2_with (refine store_blk rfl _ _ _ rfl w.heap.size 25 _ [.int .i64 0, .int .i64 0, .string ⟨#[]⟩, .int .i64 0, .int .u32 0, .int .i64 0, .string ⟨#[]⟩, .int .i64 0, .int .i64 0, .bool false, .slice none 0 0] rfl rfl HU.out rfl (by kernel_rfl) (by kernel_rfl) ?_)
  intro w9 hU9 hK9
  have HU9 := Lib.hid hU9
  have HL9 := Lib.hid (HL.out.trans (hK9.toBelowAt HL.out.size (by simp)))
  clear hU9 hK9
  go_wp2_with fail
  refine ret_cell_tmp rfl w.heap.size 25 [.int .i64 0, .int .i64 0, .string ⟨#[]⟩, .int .i64 0, .int .u32 0, .int .i64 0, .string ⟨#[]⟩, .int .i64 0, .int .i64 0, .bool false, .slice none 0 0] rfl HU9.out Try.underlying25 rfl (by kernel_rfl) rfl ?_
  exact vPost_err HG.out HL9.out
end Go.Proofs.Ytkpgenmlpkfokaa
