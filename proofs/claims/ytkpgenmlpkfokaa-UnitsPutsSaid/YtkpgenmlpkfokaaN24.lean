/- What is proved here: the walk of Get of units. -/
import Derived.Test.YtkpgenmlpkfokaaN23
set_option linter.unusedVariables false
set_option linter.unusedSimpArgs false
namespace Go.Proofs.Ytkpgenmlpkfokaa
open Go.RowKit
attribute [local go_sem] run_bytes bytes_size
theorem door_panic {tmps : Array Value} {R : Ending → World → Prop} {hU hE : Nat} {cs : List Value} {x : Int} {w : World} (h2 : tmps.getD 2 undef = .pointer (some ⟨hU, 0, none⟩)) (h3 : tmps.getD 3 undef = .pointer (some ⟨hE, 0, none⟩)) (hc : cs.length = 11)
    (hB : Blk w hU cs 25) (hB2 : Blk w hE [.int .i64 x] 29) (hne : hU ≠ hE) (hR : ∀ w'', Keep [hU, hE] w w'' → R (.returned (.tuple #[Un.zero.val (.slice none 0 0), .int .i64 6])) w'') :
    Leaves Try.prog Try.f17 tmps R [{ target := Target.fn (Fn.func 33) #[.pointer (some ⟨hU, 0, none⟩), .pointer (some ⟨hE, 0, none⟩)], args := #[] }] (.panicking shortP) w := by
  refine leaves_cons (f := 33) (args := #[.pointer (some ⟨hU, 0, none⟩), .pointer (some ⟨hE, 0, none⟩)]) (by simp) (by simp [go_sem]) ?_
  refine (catch_panicking hU hE cs x w hc hB hB2 hne).mono ?_
  rintro e u' w'' ⟨rfl, rfl, hK, hB, hB2⟩
  exact ⟨_, results_cells rfl tmps w'' hU hE 25 29 _ .i64 6 h2 h3 hB hB2 Try.underlying25 rfl (by kernel_rfl) Try.underlying29, hR w'' hK⟩
theorem door_ret {tmps : Array Value} {R : Ending → World → Prop} {hU hE : Nat} {cs : List Value} {x : Int} {w : World} (h2 : tmps.getD 2 undef = .pointer (some ⟨hU, 0, none⟩)) (h3 : tmps.getD 3 undef = .pointer (some ⟨hE, 0, none⟩)) (hc : cs.length = 11)
    (hB : Blk w hU cs 25) (hB2 : Blk w hE [.int .i64 x] 29) (hR : R (.returned (.tuple #[.agg cs.toArray, .int .i64 x])) w) :
    Leaves Try.prog Try.f17 tmps R [{ target := Target.fn (Fn.func 33) #[.pointer (some ⟨hU, 0, none⟩), .pointer (some ⟨hE, 0, none⟩)], args := #[] }] .returning w := by
  refine leaves_cons (f := 33) (args := #[.pointer (some ⟨hU, 0, none⟩), .pointer (some ⟨hE, 0, none⟩)]) (by simp) (by simp [go_sem]) ?_
  refine (catch_idle ⟨hU, 0, none⟩ ⟨hE, 0, none⟩ w).mono ?_
  rintro e u' w'' ⟨rfl, rfl, rfl⟩
  have hi : (Try.prog.info? 25).map (·.size) = some cs.length := by rw [hc]; kernel_rfl
  exact ⟨_, results_cells rfl tmps w'' hU hE 25 29 _ .i64 x h2 h3 hB hB2 Try.underlying25 rfl hi Try.underlying29, hR⟩
/-- What Get answers. -/
def getS (b : ByteArray) : Un × Int :=
  if ¬ (6 ≤ b.size ∧ b.size ≤ 167) then (Un.zero, 6)
  else if ¬ (sumB (b.data.toList.take (b.size - 2)) = b.data.toList) then (Un.zero, 370)
  else if ¬ (1 ≤ numN (b.data.toList.take 1) ∧ numN (b.data.toList.take 1) ≤ 6) then (Un.zero, 6)
  else match readU (numN (b.data.toList.take 1)) { Un.zero with kind := (numN (b.data.toList.take 1) : Int), num := (numN ((b.data.toList.drop 1).take 2) : Int) } (b.extract 3 (b.size - 2)) with
    | none => (Un.zero, 6)
    | some (u, r) => if r.size = 0 ∧ validS u = true then (u, 0) else (Un.zero, 6)
def GetPost (b : ByteArray) (w : World) (e : Ending) (w' : World) : Prop := ∃ gv, e = .returned (.tuple #[(getS b).1.val gv, .int .i64 (getS b).2]) ∧ GapsAt w' gv (getS b).1.gaps ∧ Below w.heap.size w w'
theorem getPost_err {b : ByteArray} {w w' : World} {x : Int} (h : getS b = (Un.zero, x)) (hL : Below w.heap.size w w') : GetPost b w (.returned (.tuple #[Un.zero.val (.slice none 0 0), .int .i64 x])) w' := by
  refine ⟨.slice none 0 0, ?_, ?_, hL⟩
  · rw [h]
  · rw [h]; exact GapsAt.nil w'
set_option maxHeartbeats 4000000 in
set_option maxRecDepth 100000 in
theorem uGet_out (b : ByteArray) (w : World) (h : ¬ (6 ≤ b.size ∧ b.size ≤ 167)) : Calls Try.prog 17 #[.string b] w (GetPost b w) := by
  have HG := Lib.hid (show getS b = (Un.zero, 6) by rw [getS, if_pos h])
  have H1 := Lib.hid (fun W => uwithin_any (b.size : Int) 6 167 W)
  rw [decide_eq_false (by omega : ¬ (6 ≤ (b.size : Int) ∧ (b.size : Int) ≤ 167))] at H1
  clear h
  go_enter_defers Try.func17, Try.ntmps17
  go_wp2_with fail
  refine (H1.out _).mono ?_
  rintro e _ ⟨rfl, rfl⟩
  go_wp2_with fail
  refine ⟨_, results_cells rfl _ _ w.heap.size (w.heap.size + 1) 25 29 (Un.zero.cells (.slice none 0 0)) .i64 6 rfl rfl ?_ ?_ Try.underlying25 rfl (by kernel_rfl) Try.underlying29, getPost_err HG.out ?_⟩
  · exact (Blk.new w _ _).alloc _
  · exact Blk.new_at _ _ _ _ (by simp)
  · exact ((Below.refl _ _).alloc (Nat.le_refl _) _).alloc (by simp) _
set_option maxHeartbeats 4000000 in
set_option maxRecDepth 100000 in
theorem uGet_sum (b : ByteArray) (w : World) (h : 6 ≤ b.size ∧ b.size ≤ 167) (h2 : ¬ (sumB (b.data.toList.take (b.size - 2)) = b.data.toList)) : Calls Try.prog 17 #[.string b] w (GetPost b w) := by
  have HG := Lib.hid (show getS b = (Un.zero, 370) by rw [getS, if_neg (by simpa using h), if_pos h2])
  have H1 := Lib.hid (fun W => uwithin_any (b.size : Int) 6 167 W)
  rw [decide_eq_true (by omega : (6 ≤ (b.size : Int) ∧ (b.size : Int) ≤ 167))] at H1
  obtain ⟨n, hn⟩ : ∃ n, n = b.size - 2 := ⟨_, rfl⟩
  have HMI := Lib.hid (show (b.size : Int) - 2 = (n : Int) by omega)
  have hn1 : n ≤ 165 := by omega
  have hn2 : 4 ≤ n := by omega
  have hnb : n ≤ b.size := by omega
  obtain ⟨s, hs⟩ : ∃ s, s = b.extract 0 n := ⟨_, rfl⟩
  have hsl : s.data.toList = b.data.toList.take n := by rw [hs]; simp
  have hss : s.size = n := by rw [size_list, hsl]; simp; omega
  have HS := Lib.hid hs; have HSL := Lib.hid hsl; have HSS := Lib.hid hss; have HN := Lib.hid hn
  have hsz : s.size ≤ 165 := by omega
  obtain ⟨t, ht⟩ : ∃ t : ByteArray, t = ⟨(sumB s.data.toList).toArray⟩ := ⟨_, rfl⟩
  have HSUM := Lib.hid (fun base v W (hb : base ≤ W.heap.size) (hR : Row W base v s.data.toList) => usummed_any base v s.data.toList W hb (by rw [← size_list]; omega) hR)
  have HT := Lib.hid (show strOf (sumB s.data.toList) = .string t by rw [ht]; rfl)
  have htb : (t.toList != b.toList) = true := by
    rw [bne_iff_ne, toList_data, toList_data, ht]
    show sumB s.data.toList ≠ b.data.toList
    rw [hsl, hn]; exact h2
  have htb2 : (t.toList == b.toList) = false := by simpa using htb
  have HTB := Lib.hid htb; have HTB2 := Lib.hid htb2
  obtain ⟨hb6, hb167⟩ := h
  clear h2 hn hs hsl hss ht htb htb2
  go_enter_defers Try.func17, Try.ntmps17
  go_wp2_with fail
  refine (H1.out _).mono ?_
  rintro e _ ⟨rfl, rfl⟩
  go_upto_region 4 with fail
  rw [HMI.out]
  refine gen_world (fun w' => Blk w' w.heap.size (Un.zero.cells (.slice none 0 0)) 25 ∧ Blk w' (w.heap.size + 1) [.int .i64 0] 29 ∧ Below w.heap.size w w') ⟨(Blk.new w _ _).alloc _, Blk.new_at _ _ _ _ (by simp), ((Below.refl _ _).alloc (Nat.le_refl _) _).alloc (by simp) _⟩ ?_
  rintro v ⟨hU, hE, hL⟩
  have HU := Lib.hid hU; have HE := Lib.hid hE; have HL := Lib.hid hL
  have hbw := bytes_row v s (by omega)
  have hbk := bytes_keep v s
  clear hU hE hL
  go_wp2_with fail
  rw [← HS.out, ← HSS.out]
  refine (HSUM.out v.heap.size _ _ (by rw [bytes_size]; omega) hbw).mono ?_
  rw [HT.out]
  rintro e w1 ⟨rfl, hL1⟩
  have hk2 := hbk.toBelow.trans hL1
  replace HU := Lib.hid (HU.out.below hk2 HU.out.lt)
  replace HE := Lib.hid (HE.out.below hk2 HE.out.lt)
  replace HL := Lib.hid (HL.out.trans (hk2.mono HL.out.size))
  have q1 := HTB.out
  have q2 := HTB2.out
  clear hbw hbk hL1 hk2
  simp only [Un.zero, Un.cells] at HU
  go_wp2_with (refine store_blk rfl _ _ _ rfl w.heap.size 25 _ [.int .i64 0, .int .i64 0, .string ⟨#[]⟩, .int .i64 0, .int .u32 0, .int .i64 0, .string ⟨#[]⟩, .int .i64 0, .int .i64 0, .bool false, .slice none 0 0] rfl rfl HU.out rfl (by kernel_rfl) (by kernel_rfl) ?_)
  intro w9 hU9 hK9
  have HU9 := Lib.hid hU9
  have HE9 := Lib.hid (HE.out.keep hK9 (by simp))
  have HL9 := Lib.hid (HL.out.trans (hK9.toBelowAt HL.out.size (by simp)))
  clear hU9 hK9
  have y0 := HE9.out.cell 0
  simp only [List.getElem?_cons_zero, List.getElem?_cons_succ] at y0
  have z0 := HE9.out.free 0
  go_wp2_with fail
  have hne9 : w.heap.size ≠ w.heap.size + 1 := by omega
  refine ⟨_, results_cells rfl _ _ w.heap.size (w.heap.size + 1) 25 29 (Un.zero.cells (.slice none 0 0)) .i64 370 rfl rfl (HU9.out.set_far (by simp) _) (HE9.out.set 0 _) Try.underlying25 rfl (by kernel_rfl) Try.underlying29, getPost_err HG.out (HL9.out.setCell (by simp) _)⟩
end Go.Proofs.Ytkpgenmlpkfokaa
