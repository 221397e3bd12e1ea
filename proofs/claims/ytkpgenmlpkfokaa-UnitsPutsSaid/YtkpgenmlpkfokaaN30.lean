/- What is proved here: Get of any string in both; Cut of both; the laws' first look at the units. -/
import Derived.Test.YtkpgenmlpkfokaaN27a
import Derived.Test.YtkpgenmlpkfokaaN27b
import Derived.Test.YtkpgenmlpkfokaaN27c
set_option linter.unusedVariables false
set_option linter.unusedSimpArgs false
namespace Go.Proofs.Ytkpgenmlpkfokaa
open Go.RowKit
theorem uGet_any (b : ByteArray) (w : World) : Calls Try.prog 17 #[.string b] w (GetPost b w) := by
  by_cases h : 6 ≤ b.size ∧ b.size ≤ 167
  · by_cases h2 : sumB (b.data.toList.take (b.size - 2)) = b.data.toList
    · exact uGet_main b w h h2
    · exact uGet_sum b w h h2
  · exact uGet_out b w h
theorem vGet_any (b : ByteArray) (w : World) : Calls Try.prog 18 #[.string b] w (VPost b w) := by
  by_cases h : 6 ≤ b.size ∧ b.size ≤ 167
  · by_cases h2 : (vnum b (b.size - 2) 2 : Int) = w16 (sum16 (b.extract 0 (b.size - 2)).data.toList)
    · by_cases h0 : kindOf (b.extract 0 (b.size - 2)) = 0 ∨ 6 < kindOf (b.extract 0 (b.size - 2))
      · exact vGet_ko b w h h2 h0
      · rcases (by omega : kindOf (b.extract 0 (b.size - 2)) = 1 ∨ kindOf (b.extract 0 (b.size - 2)) = 2 ∨ kindOf (b.extract 0 (b.size - 2)) = 3 ∨ kindOf (b.extract 0 (b.size - 2)) = 4 ∨ kindOf (b.extract 0 (b.size - 2)) = 5 ∨ kindOf (b.extract 0 (b.size - 2)) = 6) with e | e | e | e | e | e
        · exact vGet_k1 b w h h2 e
        · exact vGet_k2 b w h h2 e
        · exact vGet_k3 b w h h2 e
        · exact vGet_k4 b w h h2 e
        · exact vGet_k5 b w h h2 e
        · exact vGet_k6 b w h h2 e
    · exact vGet_sum b w h h2
  · exact vGet_out b w h
def ncells (u : Un) : List Value := u.cells (.slice none 0 0)
/-- A row of units without gaps, of the call's own. -/
def URow (w : World) (base : Nat) (v : Value) (l : List Un) : Prop := w.ownsRow base 25 11 v l.length (l.flatMap ncells)
theorem info_unit : (Try.prog.info? 25).map (fun i => (i.zero, i.size, i.bytes)) = some (some (.agg #[.int .i64 0, .int .i64 0, .string ⟨#[]⟩, .int .i64 0, .int .u32 0, .int .i64 0, .string ⟨#[]⟩, .int .i64 0, .int .i64 0, .bool false, .slice none 0 0]), 11, 120) := by kernel_rfl
theorem URow.nil (w : World) (base : Nat) : URow w base (.slice none 0 0) [] := ⟨rfl, .inl ⟨rfl, rfl⟩⟩
theorem URow.keep {S : List Nat} {w w' : World} {base : Nat} {v : Value} {l : List Un} (h : URow w base v l) (k : Keep S w w') (hn : ∀ g, v.ownBlock = some g → g ∉ S) : URow w' base v l := ownsRow_keep h k hn
theorem URow.lt {w : World} {base : Nat} {v : Value} {l : List Un} (h : URow w base v l) : ∀ g, v.ownBlock = some g → base ≤ g ∧ g < w.heap.size := by
  intro k hk
  obtain ⟨hl, ⟨rfl, h0⟩ | ⟨g, cap, cur, rfl, hb, hg, hc, hm, hs, ht⟩⟩ := h
  · cases hk
  · obtain rfl : g = k := Option.some.inj hk
    exact ⟨hb, (Array.getElem?_eq_some_iff.1 hg).1⟩
theorem URow.form {w : World} {base : Nat} {v : Value} {l : List Un} (h : URow w base v l) : ∃ a cap, v = .slice a l.length cap := by
  obtain ⟨hl, ⟨rfl, h0⟩ | ⟨g, cap, cur, rfl, _⟩⟩ := h
  · exact ⟨none, 0, by rw [h0]⟩
  · exact ⟨_, _, rfl⟩
theorem ncells_at : ∀ (l : List Un) (i j : Nat) (h : i < l.length), j < 11 → (l.flatMap ncells)[i * 11 + j]? = (ncells l[i])[j]?
  | [], i, _, h, _ => by simp at h
  | u :: l, 0, j, _, hj => by
    rw [List.flatMap_cons, List.getElem?_append_left (by show 0 * 11 + j < 11; omega)]
    simp
  | u :: l, i + 1, j, h, hj => by
    have := ncells_at l i j (by simpa using h) hj
    have e11 : (ncells u).length = 11 := rfl
    rw [List.flatMap_cons, List.getElem?_append_right (by rw [e11]; omega), e11, show (i + 1) * 11 + j - 11 = i * 11 + j by omega, this]
    simp
theorem URow.cell {w : World} {base : Nat} {v : Value} {l : List Un} (h : URow w base v l) (i : Nat) (hi : i < l.length) : ∃ g cap, v = .slice (some ⟨g, 0, none⟩) l.length cap ∧ g < w.heap.size ∧ ∀ j, j < 11 → w.cell? ⟨g, i * 11 + j, none⟩ = (ncells l[i])[j]? := by
  obtain ⟨hl, ⟨rfl, h0⟩ | ⟨g, cap, cur, rfl, hb, hg, hc, hm, hs, ht⟩⟩ := h
  · omega
  · refine ⟨g, cap, rfl, (Array.getElem?_eq_some_iff.1 hg).1, fun j hj => ?_⟩
    rw [cell_of_row w g _ cur _ _ hg, ← Array.getElem?_toList, ← ncells_at l i j hi hj, ← ht, List.getElem?_take_of_lt (by omega)]
/-- A piece of a file. -/
def pieceU (num : Int) (file : ByteArray) (most i : Nat) : Un := ⟨2, num, ⟨#[]⟩, 0, 0, ((i * most : Nat) : Int), file.extract (i * most) (min (i * most + most) file.size), 0, 0, false, []⟩
def cutL (num : Int) (file : ByteArray) (most n : Nat) : List Un := (List.range n).map (pieceU num file most)
theorem cutL_length (num : Int) (file : ByteArray) (most n : Nat) : (cutL num file most n).length = n := by simp [cutL]
theorem cutL_snoc (num : Int) (file : ByteArray) (most n : Nat) : cutL num file most (n + 1) = cutL num file most n ++ [pieceU num file most n] := by simp [cutL, List.range_succ]
def pieces (size most : Nat) : Nat := (size + most - 1) / most
def cutS (num : Int) (file : ByteArray) (most : Int) : List Un × Int :=
  if ¬ (0 ≤ num ∧ num ≤ 65535) ∨ ¬ (1 ≤ most ∧ most ≤ 160) then ([], 2)
  else if 65535 < file.size then ([], 3)
  else (cutL num file most.toNat (pieces file.size most.toNat), 0)
theorem pieces_lt (size most i : Nat) (hm : 1 ≤ most) : i < pieces size most ↔ i * most < size := by
  unfold pieces
  rw [Nat.lt_div_iff_mul_lt (by omega)]
  have hc : most * i = i * most := Nat.mul_comm _ _
  constructor <;> intro h <;> (try rw [hc] at h) <;> (try rw [hc]) <;> omega
theorem one11 (num : Int) (o : Int) (d : ByteArray) : ∀ u ∈ [Value.int .i64 2, .int .i64 num, .string ⟨#[]⟩, .int .i64 0, .int .u32 0, .int .i64 o, .string d, .int .i64 0, .int .i64 0, .bool false, .slice none 0 0], u.oneCell' = true := by
  intro u hu
  simp only [List.mem_cons, List.not_mem_nil, or_false] at hu
  rcases hu with rfl | rfl | rfl | rfl | rfl | rfl | rfl | rfl | rfl | rfl | rfl <;> rfl
set_option maxHeartbeats 4000000 in
set_option maxRecDepth 100000 in
theorem uCut_out (num : Int) (file : ByteArray) (most : Int) (w : World) (h : ¬ (0 ≤ num ∧ num ≤ 65535) ∨ ¬ (1 ≤ most ∧ most ≤ 160)) : Calls Try.prog 20 #[.int .i64 num, .string file, .int .i64 most] w fun e w' => e = .returned (.tuple #[.slice none 0 0, .int .i64 2]) ∧ w = w' := by
  have H1 := Lib.hid (fun W => uwithin_any num 0 65535 W)
  have H2 := Lib.hid (fun W => uwithin_any most 1 160 W)
  by_cases h1 : 0 ≤ num ∧ num ≤ 65535
  · have h2 : ¬ (1 ≤ most ∧ most ≤ 160) := by rcases h with h | h; exact absurd h1 h; exact h
    rw [decide_eq_true h1] at H1
    rw [decide_eq_false h2] at H2
    clear h h1 h2
    go_enter Try.func20, Try.ntmps20
    go_wp2_with fail
    refine (H1.out _).mono ?_
    rintro e _ ⟨rfl, rfl⟩
    go_wp2_with fail
    refine (H2.out _).mono ?_
    rintro e _ ⟨rfl, rfl⟩
    go_wp2_with fail
    go_ret2
    exact ⟨rfl, rfl⟩
  · rw [decide_eq_false h1] at H1
    clear h h1
    go_enter Try.func20, Try.ntmps20
    go_wp2_with fail
    refine (H1.out _).mono ?_
    rintro e _ ⟨rfl, rfl⟩
    go_wp2_with fail
    go_ret2
    exact ⟨rfl, rfl⟩
set_option maxHeartbeats 4000000 in
set_option maxRecDepth 100000 in
theorem uCut_long (num : Int) (file : ByteArray) (most : Int) (w : World) (h1 : 0 ≤ num ∧ num ≤ 65535) (h2 : 1 ≤ most ∧ most ≤ 160) (h3 : 65535 < file.size) : Calls Try.prog 20 #[.int .i64 num, .string file, .int .i64 most] w fun e w' => e = .returned (.tuple #[.slice none 0 0, .int .i64 3]) ∧ w = w' := by
  have d3 : (65535 : Int) < file.size := by omega
  have H1 := Lib.hid (fun W => uwithin_any num 0 65535 W)
  have H2 := Lib.hid (fun W => uwithin_any most 1 160 W)
  rw [decide_eq_true h1] at H1
  rw [decide_eq_true h2] at H2
  clear h3
  go_enter Try.func20, Try.ntmps20
  go_wp2_with fail
  refine (H1.out _).mono ?_
  rintro e _ ⟨rfl, rfl⟩
  go_wp2_with fail
  refine (H2.out _).mono ?_
  rintro e _ ⟨rfl, rfl⟩
  go_wp2_with fail
  go_ret2
  exact ⟨rfl, rfl⟩
set_option maxHeartbeats 8000000 in
set_option maxRecDepth 100000 in
theorem uCut_in (num : Int) (file : ByteArray) (m : Nat) (w : World) (h1 : 0 ≤ num ∧ num ≤ 65535) (h2 : 1 ≤ m ∧ m ≤ 160) (h3 : file.size ≤ 65535) : Calls Try.prog 20 #[.int .i64 num, .string file, .int .i64 (m : Int)] w fun e w' => ∃ v, e = .returned (.tuple #[v, .int .i64 0]) ∧ URow w' w.heap.size v (cutL num file m (pieces file.size m)) ∧ Below w.heap.size w w' := by
  have d3 : ¬ (65535 : Int) < file.size := by omega
  have H1 := Lib.hid (fun W => uwithin_any num 0 65535 W)
  have H2 := Lib.hid (fun W => uwithin_any (m : Int) 1 160 W)
  rw [decide_eq_true h1] at H1
  rw [decide_eq_true (by omega : (1 ≤ (m : Int) ∧ (m : Int) ≤ 160))] at H2
  obtain ⟨n, hn⟩ : ∃ n, n = pieces file.size m := ⟨_, rfl⟩
  have hpl := fun i => pieces_lt file.size m i h2.1
  rw [← hn] at hpl
  have hn2 : n ≤ 65535 := by
    rw [hn]; unfold pieces
    refine Nat.le_trans (Nat.div_le_div_right (c := m) (show file.size + m - 1 ≤ 65535 * m by have : 65535 * 1 ≤ 65535 * m := Nat.mul_le_mul_left _ h2.1; have : m ≤ 160 := h2.2; omega)) ?_
    rw [Nat.mul_div_cancel _ (by omega)]; exact Nat.le_refl _
  have HPL := Lib.hid hpl
  have HN := Lib.hid hn
  rw [← hn]
  clear hpl hn
  go_enter Try.func20, Try.ntmps20
  go_wp2_with fail
  refine (H1.out _).mono ?_
  rintro e _ ⟨rfl, rfl⟩
  go_wp2_with fail
  refine (H2.out _).mono ?_
  rintro e _ ⟨rfl, rfl⟩
  go_wp2_with fail
  go_loopg [8, 9] n (fun r ov av wr => ∃ (i a : Nat), i ≤ n ∧ r = n - i ∧ Hid (a = i * m) ∧ av = .int .i64 (a : Int) ∧ URow wr w.heap.size ov (cutL num file m i) ∧ Below w.heap.size w wr)
  case atStart => exact ⟨0, 0, by omega, by omega, Lib.hid (by simp), rfl, URow.nil _ _, Below.refl _ _⟩
  case round =>
    obtain ⟨i, a, hi, hr, ha, rfl, hR, hL⟩ := hrel
    have HR := Lib.hid hR; have HL := Lib.hid hL; have HRR := Lib.hid hr
    clear hR hL hr
    by_cases hlt : i < n
    · have hal : a < file.size := by rw [ha.out]; exact (HPL.out i).1 hlt
      have dal : (a : Int) < (file.size : Int) := by omega
      obtain ⟨e, he⟩ : ∃ e, e = min (a + m) file.size := ⟨_, rfl⟩
      have hae : a ≤ e := by omega
      have hef : e ≤ file.size := by omega
      obtain ⟨d, hd⟩ : ∃ d, d = file.extract a e := ⟨_, rfl⟩
      have hds : d.size ≤ 160 := by rw [hd]; simp; omega
      have HST := Lib.hid (show cutL num file m (i + 1) = cutL num file m i ++ [⟨2, num, ⟨#[]⟩, 0, 0, (a : Int), d, 0, 0, false, []⟩] by rw [cutL_snoc, pieceU, ← ha.out, ← he, ← hd])
      have HD := Lib.hid hd
      obtain ⟨i0, hi0, hz0, hz1, hz2⟩ := info_parts info_unit
      clear hd
      have hsp : (a + m < file.size ∧ e = a + m) ∨ (¬ file.size ≥ a + m + 1 ∧ e = file.size) := by omega
      have HE := Lib.hid he
      clear he
      rcases hsp with ⟨s1, s2⟩ | ⟨s1, s2⟩
      · have s1' : ¬ (file.size : Int) < (a : Int) + (m : Int) := by omega
        subst s2
        have hcast : ((a + m : Nat) : Int) = (a : Int) + (m : Int) := by omega
        have hde := HD.out.symm
        clear hcast
        go_wp2_with fail
        try rw [hde]
        refine (Clone_any d _ (by omega)).mono ?_
        rintro e _w2 ⟨rfl, hL2⟩
        obtain ⟨w2, hw2⟩ : ∃ x, x = _w2 := ⟨_, rfl⟩
        subst hw2
        have hLw := hL2
        replace HR := Lib.hid (HR.out.keep (Keep.ofBelow hLw) (fun _ _ => by simp))
        replace HL := Lib.hid (HL.out.trans (hLw.mono HL.out.size))
        clear hL2 hLw hde
        have HRA := Lib.hid (HR.out.keep ((Keep.refl [] w2).alloc (Obj.cells #[.int .i64 2, .int .i64 num, .string ⟨#[]⟩, .int .i64 0, .int .u32 0, .int .i64 (a : Int), .string d, .int .i64 0, .int .i64 0, .bool false, .slice none 0 0] 25)) (fun _ _ => by simp))
        obtain ⟨oa, oc, rfl⟩ := HR.out.form
        go_wp2_with (at_builtin; refine wpList_append_lies _ rfl _ _ 36 rfl w.heap.size 25 i0 (.agg #[.int .i64 0, .int .i64 0, .string ⟨#[]⟩, .int .i64 0, .int .u32 0, .int .i64 0, .string ⟨#[]⟩, .int .i64 0, .int .i64 0, .bool false, .slice none 0 0]) 11 120 Try.underlying36 hi0 hz0 hz1 hz2 rfl (by omega) _ (cutL num file m i).length ((cutL num file m i).flatMap ncells) rfl HRA.out ⟨w2.heap.size, 0, none⟩ 1 1 [.int .i64 2, .int .i64 num, .string ⟨#[]⟩, .int .i64 0, .int .u32 0, .int .i64 (a : Int), .string d, .int .i64 0, .int .i64 0, .bool false, .slice none 0 0] rfl rfl (World.news_of_block (Blk.new w2 [.int .i64 2, .int .i64 num, .string ⟨#[]⟩, .int .i64 0, .int .u32 0, .int .i64 (a : Int), .string d, .int .i64 0, .int .i64 0, .bool false, .slice none 0 0] 25)) (one11 num a d) (by omega) (by rw [cutL_length]; unfold maxLen; omega) (by rw [cutL_length]; omega) (by have := HL.out.size; simp; omega) (w2.heap.size + 1) (by simp) ?_)
        intro g6 cap6 w6 q2 q3 q4 q5
        have hK6 : Keep (Value.slice oa (cutL num file m i).length oc).ownBlock.toList w2 w6 := ((Keep.refl _ w2).alloc _).trans (Keep.ofGrownV q3 (fun x hx => by rw [hx]; simp))
        have HR7 := Lib.hid (show URow w6 w.heap.size (.slice (some ⟨g6, 0, none⟩) ((cutL num file m i).length + 1) cap6) (cutL num file m (i + 1)) by
          unfold URow
          rw [HST.out, List.length_append, List.flatMap_append]
          exact q2)
        have HL7 := Lib.hid (HL.out.trans (hK6.toBelowAt HL.out.size (fun j hj => by rw [Option.mem_toList] at hj; exact (HR.out.lt j hj).1)))
        clear q2 q3 q4 q5 hK6 HRA
        go_wp2_with fail
        go_roundg (n - (i + 1))
        case measure => have := HRR.out; omega
        case rel => exact ⟨i + 1, a + m, by omega, rfl, Lib.hid (by rw [ha.out, Nat.succ_mul]), by go_num, HR7.out, HL7.out⟩
      · by_cases s3 : a + m = file.size
        · have s1' : ¬ (file.size : Int) < (a : Int) + (m : Int) := by omega
          obtain rfl : e = a + m := by omega
          have hde := HD.out.symm
          clear s2 s3
          go_wp2_with fail
          try rw [hde]
          refine (Clone_any d _ (by omega)).mono ?_
          rintro e _w2 ⟨rfl, hL2⟩
          obtain ⟨w2, hw2⟩ : ∃ x, x = _w2 := ⟨_, rfl⟩
          subst hw2
          have hLw := hL2
          replace HR := Lib.hid (HR.out.keep (Keep.ofBelow hLw) (fun _ _ => by simp))
          replace HL := Lib.hid (HL.out.trans (hLw.mono HL.out.size))
          clear hL2 hLw hde
          have HRA := Lib.hid (HR.out.keep ((Keep.refl [] w2).alloc (Obj.cells #[.int .i64 2, .int .i64 num, .string ⟨#[]⟩, .int .i64 0, .int .u32 0, .int .i64 (a : Int), .string d, .int .i64 0, .int .i64 0, .bool false, .slice none 0 0] 25)) (fun _ _ => by simp))
          obtain ⟨oa, oc, rfl⟩ := HR.out.form
          go_wp2_with (at_builtin; refine wpList_append_lies _ rfl _ _ 36 rfl w.heap.size 25 i0 (.agg #[.int .i64 0, .int .i64 0, .string ⟨#[]⟩, .int .i64 0, .int .u32 0, .int .i64 0, .string ⟨#[]⟩, .int .i64 0, .int .i64 0, .bool false, .slice none 0 0]) 11 120 Try.underlying36 hi0 hz0 hz1 hz2 rfl (by omega) _ (cutL num file m i).length ((cutL num file m i).flatMap ncells) rfl HRA.out ⟨w2.heap.size, 0, none⟩ 1 1 [.int .i64 2, .int .i64 num, .string ⟨#[]⟩, .int .i64 0, .int .u32 0, .int .i64 (a : Int), .string d, .int .i64 0, .int .i64 0, .bool false, .slice none 0 0] rfl rfl (World.news_of_block (Blk.new w2 [.int .i64 2, .int .i64 num, .string ⟨#[]⟩, .int .i64 0, .int .u32 0, .int .i64 (a : Int), .string d, .int .i64 0, .int .i64 0, .bool false, .slice none 0 0] 25)) (one11 num a d) (by omega) (by rw [cutL_length]; unfold maxLen; omega) (by rw [cutL_length]; omega) (by have := HL.out.size; simp; omega) (w2.heap.size + 1) (by simp) ?_)
          intro g6 cap6 w6 q2 q3 q4 q5
          have hK6 : Keep (Value.slice oa (cutL num file m i).length oc).ownBlock.toList w2 w6 := ((Keep.refl _ w2).alloc _).trans (Keep.ofGrownV q3 (fun x hx => by rw [hx]; simp))
          have HR7 := Lib.hid (show URow w6 w.heap.size (.slice (some ⟨g6, 0, none⟩) ((cutL num file m i).length + 1) cap6) (cutL num file m (i + 1)) by
            unfold URow
            rw [HST.out, List.length_append, List.flatMap_append]
            exact q2)
          have HL7 := Lib.hid (HL.out.trans (hK6.toBelowAt HL.out.size (fun j hj => by rw [Option.mem_toList] at hj; exact (HR.out.lt j hj).1)))
          clear q2 q3 q4 q5 hK6 HRA
          go_wp2_with fail
          go_roundg (n - (i + 1))
          case measure => have := HRR.out; omega
          case rel => exact ⟨i + 1, a + m, by omega, rfl, Lib.hid (by rw [ha.out, Nat.succ_mul]), by go_num, HR7.out, HL7.out⟩
        · have s1' : (file.size : Int) < (a : Int) + (m : Int) := by omega
          subst s2
          have hde := HD.out.symm
          go_wp2_with fail
          try rw [hde]
          refine (Clone_any d _ (by omega)).mono ?_
          rintro e _w2 ⟨rfl, hL2⟩
          obtain ⟨w2, hw2⟩ : ∃ x, x = _w2 := ⟨_, rfl⟩
          subst hw2
          have hLw := hL2
          replace HR := Lib.hid (HR.out.keep (Keep.ofBelow hLw) (fun _ _ => by simp))
          replace HL := Lib.hid (HL.out.trans (hLw.mono HL.out.size))
          clear hL2 hLw hde
          have HRA := Lib.hid (HR.out.keep ((Keep.refl [] w2).alloc (Obj.cells #[.int .i64 2, .int .i64 num, .string ⟨#[]⟩, .int .i64 0, .int .u32 0, .int .i64 (a : Int), .string d, .int .i64 0, .int .i64 0, .bool false, .slice none 0 0] 25)) (fun _ _ => by simp))
          obtain ⟨oa, oc, rfl⟩ := HR.out.form
          go_wp2_with (at_builtin; refine wpList_append_lies _ rfl _ _ 36 rfl w.heap.size 25 i0 (.agg #[.int .i64 0, .int .i64 0, .string ⟨#[]⟩, .int .i64 0, .int .u32 0, .int .i64 0, .string ⟨#[]⟩, .int .i64 0, .int .i64 0, .bool false, .slice none 0 0]) 11 120 Try.underlying36 hi0 hz0 hz1 hz2 rfl (by omega) _ (cutL num file m i).length ((cutL num file m i).flatMap ncells) rfl HRA.out ⟨w2.heap.size, 0, none⟩ 1 1 [.int .i64 2, .int .i64 num, .string ⟨#[]⟩, .int .i64 0, .int .u32 0, .int .i64 (a : Int), .string d, .int .i64 0, .int .i64 0, .bool false, .slice none 0 0] rfl rfl (World.news_of_block (Blk.new w2 [.int .i64 2, .int .i64 num, .string ⟨#[]⟩, .int .i64 0, .int .u32 0, .int .i64 (a : Int), .string d, .int .i64 0, .int .i64 0, .bool false, .slice none 0 0] 25)) (one11 num a d) (by omega) (by rw [cutL_length]; unfold maxLen; omega) (by rw [cutL_length]; omega) (by have := HL.out.size; simp; omega) (w2.heap.size + 1) (by simp) ?_)
          intro g6 cap6 w6 q2 q3 q4 q5
          have hK6 : Keep (Value.slice oa (cutL num file m i).length oc).ownBlock.toList w2 w6 := ((Keep.refl _ w2).alloc _).trans (Keep.ofGrownV q3 (fun x hx => by rw [hx]; simp))
          have HR7 := Lib.hid (show URow w6 w.heap.size (.slice (some ⟨g6, 0, none⟩) ((cutL num file m i).length + 1) cap6) (cutL num file m (i + 1)) by
            unfold URow
            rw [HST.out, List.length_append, List.flatMap_append]
            exact q2)
          have HL7 := Lib.hid (HL.out.trans (hK6.toBelowAt HL.out.size (fun j hj => by rw [Option.mem_toList] at hj; exact (HR.out.lt j hj).1)))
          clear q2 q3 q4 q5 hK6 HRA
          go_wp2_with fail
          go_roundg (n - (i + 1))
          case measure => have := HRR.out; omega
          case rel => exact ⟨i + 1, a + m, by omega, rfl, Lib.hid (by rw [ha.out, Nat.succ_mul]), by go_num, HR7.out, HL7.out⟩
    · obtain rfl : i = n := by omega
      have hal : ¬ (a : Int) < (file.size : Int) := by
        have h9 : ¬ i * m < file.size := fun h => hlt ((HPL.out i).2 h)
        have ha9 := ha.out
        generalize i * m = p at h9 ha9
        omega
      go_wp2_with fail
      go_ret2
      exact ⟨_, rfl, HR.out, HL.out⟩
set_option maxHeartbeats 4000000 in
set_option maxRecDepth 100000 in
theorem vCut_out (num : Int) (file : ByteArray) (most : Int) (w : World) (h : ¬ (0 ≤ num ∧ num ≤ 65535) ∨ ¬ (1 ≤ most ∧ most ≤ 160)) : Calls Try.prog 21 #[.int .i64 num, .string file, .int .i64 most] w fun e w' => e = .returned (.tuple #[.slice none 0 0, .int .i64 2]) ∧ w = w' := by
  by_cases c0 : num < 0
  · clear h
    go_enter Try.func21, Try.ntmps21
    go_wp2_with fail
    go_ret2
    exact ⟨rfl, rfl⟩
  by_cases c1 : 65535 < num
  · clear h
    go_enter Try.func21, Try.ntmps21
    go_wp2_with fail
    go_ret2
    exact ⟨rfl, rfl⟩
  by_cases c2 : most < 1
  · clear h
    go_enter Try.func21, Try.ntmps21
    go_wp2_with fail
    go_ret2
    exact ⟨rfl, rfl⟩
  by_cases c3 : 160 < most
  · clear h
    go_enter Try.func21, Try.ntmps21
    go_wp2_with fail
    go_ret2
    exact ⟨rfl, rfl⟩
  omega
set_option maxHeartbeats 4000000 in
set_option maxRecDepth 100000 in
theorem vCut_long (num : Int) (file : ByteArray) (most : Int) (w : World) (h1 : 0 ≤ num ∧ num ≤ 65535) (h2 : 1 ≤ most ∧ most ≤ 160) (h3 : 65535 < file.size) : Calls Try.prog 21 #[.int .i64 num, .string file, .int .i64 most] w fun e w' => e = .returned (.tuple #[.slice none 0 0, .int .i64 3]) ∧ w = w' := by
  have d3 : (65535 : Int) < file.size := by omega
  obtain ⟨a1, a2⟩ := h1
  obtain ⟨a3, a4⟩ := h2
  have b1 : ¬ num < 0 := by omega
  have b2 : ¬ 65535 < num := by omega
  have b3 : ¬ most < 1 := by omega
  have b4 : ¬ 160 < most := by omega
  clear h3
  go_enter Try.func21, Try.ntmps21
  go_wp2_with fail
  go_ret2
  exact ⟨rfl, rfl⟩
set_option maxHeartbeats 8000000 in
set_option maxRecDepth 100000 in
theorem vCut_in (num : Int) (file : ByteArray) (m : Nat) (w : World) (h1 : 0 ≤ num ∧ num ≤ 65535) (h2 : 1 ≤ m ∧ m ≤ 160) (h3 : file.size ≤ 65535) : Calls Try.prog 21 #[.int .i64 num, .string file, .int .i64 (m : Int)] w fun e w' => ∃ v, e = .returned (.tuple #[v, .int .i64 0]) ∧ URow w' w.heap.size v (cutL num file m (pieces file.size m)) ∧ Below w.heap.size w w' := by
  have d3 : ¬ (65535 : Int) < file.size := by omega
  obtain ⟨a1, a2⟩ := h1
  obtain ⟨a3, a4⟩ := h2
  have b1 : ¬ num < 0 := by omega
  have b2 : ¬ 65535 < num := by omega
  have b3 : ¬ (m : Int) < 1 := by omega
  have b4 : ¬ 160 < (m : Int) := by omega
  obtain ⟨n, hn⟩ : ∃ n, n = pieces file.size m := ⟨_, rfl⟩
  have hpl := fun i => pieces_lt file.size m i a3
  rw [← hn] at hpl
  have hn2 : n ≤ 65535 := by
    rw [hn]; unfold pieces
    refine Nat.le_trans (Nat.div_le_div_right (c := m) (show file.size + m - 1 ≤ 65535 * m by have : 65535 * 1 ≤ 65535 * m := Nat.mul_le_mul_left _ a3; have : m ≤ 160 := a4; omega)) ?_
    rw [Nat.mul_div_cancel _ (by omega)]; exact Nat.le_refl _
  have HPL := Lib.hid hpl
  have HN := Lib.hid hn
  rw [← hn]
  clear hpl hn
  go_enter Try.func21, Try.ntmps21
  go_wp2_with fail
  go_loopg [8, 9] n (fun r ov av wr => ∃ (i a : Nat), i ≤ n ∧ r = n - i ∧ Hid (a = i * m) ∧ av = .int .i64 (a : Int) ∧ URow wr w.heap.size ov (cutL num file m i) ∧ Below w.heap.size w wr)
  case atStart => exact ⟨0, 0, by omega, by omega, Lib.hid (by simp), rfl, URow.nil _ _, Below.refl _ _⟩
  case round =>
    obtain ⟨i, a, hi, hr, ha, rfl, hR, hL⟩ := hrel
    have HR := Lib.hid hR; have HL := Lib.hid hL; have HRR := Lib.hid hr
    clear hR hL hr
    by_cases hlt : i < n
    · have hal : a < file.size := by rw [ha.out]; exact (HPL.out i).1 hlt
      have dal : (a : Int) < (file.size : Int) := by omega
      obtain ⟨e, he⟩ : ∃ e, e = min (a + m) file.size := ⟨_, rfl⟩
      have hae : a ≤ e := by omega
      have hef : e ≤ file.size := by omega
      obtain ⟨d, hd⟩ : ∃ d, d = file.extract a e := ⟨_, rfl⟩
      have hds : d.size ≤ 160 := by rw [hd]; simp; omega
      have HST := Lib.hid (show cutL num file m (i + 1) = cutL num file m i ++ [⟨2, num, ⟨#[]⟩, 0, 0, (a : Int), d, 0, 0, false, []⟩] by rw [cutL_snoc, pieceU, ← ha.out, ← he, ← hd])
      have HD := Lib.hid hd
      obtain ⟨i0, hi0, hz0, hz1, hz2⟩ := info_parts info_unit
      clear hd
      have hsp : (a + m < file.size ∧ e = a + m) ∨ (¬ file.size ≥ a + m + 1 ∧ e = file.size) := by omega
      have HE := Lib.hid he
      clear he
      rcases hsp with ⟨s1, s2⟩ | ⟨s1, s2⟩
      · have s1' : ¬ (file.size : Int) < (a : Int) + (m : Int) := by omega
        subst s2
        have hcast : ((a + m : Nat) : Int) = (a : Int) + (m : Int) := by omega
        have hde := HD.out.symm
        clear hcast
        obtain ⟨w2, hw2⟩ : ∃ x, x = wr := ⟨_, rfl⟩
        subst hw2
        have HRA := Lib.hid (HR.out.keep ((Keep.refl [] w2).alloc (Obj.cells #[.int .i64 2, .int .i64 num, .string ⟨#[]⟩, .int .i64 0, .int .u32 0, .int .i64 (a : Int), .string d, .int .i64 0, .int .i64 0, .bool false, .slice none 0 0] 25)) (fun _ _ => by simp))
        obtain ⟨oa, oc, rfl⟩ := HR.out.form
        go_wp2_with (at_builtin; refine wpList_append_lies _ rfl _ _ 36 rfl w.heap.size 25 i0 (.agg #[.int .i64 0, .int .i64 0, .string ⟨#[]⟩, .int .i64 0, .int .u32 0, .int .i64 0, .string ⟨#[]⟩, .int .i64 0, .int .i64 0, .bool false, .slice none 0 0]) 11 120 Try.underlying36 hi0 hz0 hz1 hz2 rfl (by omega) _ (cutL num file m i).length ((cutL num file m i).flatMap ncells) rfl HRA.out ⟨w2.heap.size, 0, none⟩ 1 1 [.int .i64 2, .int .i64 num, .string ⟨#[]⟩, .int .i64 0, .int .u32 0, .int .i64 (a : Int), .string d, .int .i64 0, .int .i64 0, .bool false, .slice none 0 0] rfl rfl (World.news_of_block (Blk.new w2 [.int .i64 2, .int .i64 num, .string ⟨#[]⟩, .int .i64 0, .int .u32 0, .int .i64 (a : Int), .string d, .int .i64 0, .int .i64 0, .bool false, .slice none 0 0] 25)) (one11 num a d) (by omega) (by rw [cutL_length]; unfold maxLen; omega) (by rw [cutL_length]; omega) (by have := HL.out.size; simp; omega) (w2.heap.size + 1) (by simp) ?_)
        intro g6 cap6 w6 q2 q3 q4 q5
        have hK6 : Keep (Value.slice oa (cutL num file m i).length oc).ownBlock.toList w2 w6 := ((Keep.refl _ w2).alloc _).trans (Keep.ofGrownV q3 (fun x hx => by rw [hx]; simp))
        have HR7 := Lib.hid (show URow w6 w.heap.size (.slice (some ⟨g6, 0, none⟩) ((cutL num file m i).length + 1) cap6) (cutL num file m (i + 1)) by
          unfold URow
          rw [HST.out, List.length_append, List.flatMap_append]
          exact q2)
        have HL7 := Lib.hid (HL.out.trans (hK6.toBelowAt HL.out.size (fun j hj => by rw [Option.mem_toList] at hj; exact (HR.out.lt j hj).1)))
        clear q2 q3 q4 q5 hK6 HRA
        go_wp2_with fail
        go_roundg (n - (i + 1))
        case measure => have := HRR.out; omega
        case rel => exact ⟨i + 1, a + m, by omega, rfl, Lib.hid (by rw [ha.out, Nat.succ_mul]), by go_num, HR7.out, HL7.out⟩
      · by_cases s3 : a + m = file.size
        · have s1' : ¬ (file.size : Int) < (a : Int) + (m : Int) := by omega
          obtain rfl : e = a + m := by omega
          have hde := HD.out.symm
          clear s2 s3
          obtain ⟨w2, hw2⟩ : ∃ x, x = wr := ⟨_, rfl⟩
          subst hw2
          have HRA := Lib.hid (HR.out.keep ((Keep.refl [] w2).alloc (Obj.cells #[.int .i64 2, .int .i64 num, .string ⟨#[]⟩, .int .i64 0, .int .u32 0, .int .i64 (a : Int), .string d, .int .i64 0, .int .i64 0, .bool false, .slice none 0 0] 25)) (fun _ _ => by simp))
          obtain ⟨oa, oc, rfl⟩ := HR.out.form
          go_wp2_with (at_builtin; refine wpList_append_lies _ rfl _ _ 36 rfl w.heap.size 25 i0 (.agg #[.int .i64 0, .int .i64 0, .string ⟨#[]⟩, .int .i64 0, .int .u32 0, .int .i64 0, .string ⟨#[]⟩, .int .i64 0, .int .i64 0, .bool false, .slice none 0 0]) 11 120 Try.underlying36 hi0 hz0 hz1 hz2 rfl (by omega) _ (cutL num file m i).length ((cutL num file m i).flatMap ncells) rfl HRA.out ⟨w2.heap.size, 0, none⟩ 1 1 [.int .i64 2, .int .i64 num, .string ⟨#[]⟩, .int .i64 0, .int .u32 0, .int .i64 (a : Int), .string d, .int .i64 0, .int .i64 0, .bool false, .slice none 0 0] rfl rfl (World.news_of_block (Blk.new w2 [.int .i64 2, .int .i64 num, .string ⟨#[]⟩, .int .i64 0, .int .u32 0, .int .i64 (a : Int), .string d, .int .i64 0, .int .i64 0, .bool false, .slice none 0 0] 25)) (one11 num a d) (by omega) (by rw [cutL_length]; unfold maxLen; omega) (by rw [cutL_length]; omega) (by have := HL.out.size; simp; omega) (w2.heap.size + 1) (by simp) ?_)
          intro g6 cap6 w6 q2 q3 q4 q5
          have hK6 : Keep (Value.slice oa (cutL num file m i).length oc).ownBlock.toList w2 w6 := ((Keep.refl _ w2).alloc _).trans (Keep.ofGrownV q3 (fun x hx => by rw [hx]; simp))
          have HR7 := Lib.hid (show URow w6 w.heap.size (.slice (some ⟨g6, 0, none⟩) ((cutL num file m i).length + 1) cap6) (cutL num file m (i + 1)) by
            unfold URow
            rw [HST.out, List.length_append, List.flatMap_append]
            exact q2)
          have HL7 := Lib.hid (HL.out.trans (hK6.toBelowAt HL.out.size (fun j hj => by rw [Option.mem_toList] at hj; exact (HR.out.lt j hj).1)))
          clear q2 q3 q4 q5 hK6 HRA
          go_wp2_with fail
          go_roundg (n - (i + 1))
          case measure => have := HRR.out; omega
          case rel => exact ⟨i + 1, a + m, by omega, rfl, Lib.hid (by rw [ha.out, Nat.succ_mul]), by go_num, HR7.out, HL7.out⟩
        · have s1' : (file.size : Int) < (a : Int) + (m : Int) := by omega
          subst s2
          have hde := HD.out.symm
          obtain ⟨w2, hw2⟩ : ∃ x, x = wr := ⟨_, rfl⟩
          subst hw2
          have HRA := Lib.hid (HR.out.keep ((Keep.refl [] w2).alloc (Obj.cells #[.int .i64 2, .int .i64 num, .string ⟨#[]⟩, .int .i64 0, .int .u32 0, .int .i64 (a : Int), .string d, .int .i64 0, .int .i64 0, .bool false, .slice none 0 0] 25)) (fun _ _ => by simp))
          obtain ⟨oa, oc, rfl⟩ := HR.out.form
          go_wp2_with (at_builtin; refine wpList_append_lies _ rfl _ _ 36 rfl w.heap.size 25 i0 (.agg #[.int .i64 0, .int .i64 0, .string ⟨#[]⟩, .int .i64 0, .int .u32 0, .int .i64 0, .string ⟨#[]⟩, .int .i64 0, .int .i64 0, .bool false, .slice none 0 0]) 11 120 Try.underlying36 hi0 hz0 hz1 hz2 rfl (by omega) _ (cutL num file m i).length ((cutL num file m i).flatMap ncells) rfl HRA.out ⟨w2.heap.size, 0, none⟩ 1 1 [.int .i64 2, .int .i64 num, .string ⟨#[]⟩, .int .i64 0, .int .u32 0, .int .i64 (a : Int), .string d, .int .i64 0, .int .i64 0, .bool false, .slice none 0 0] rfl rfl (World.news_of_block (Blk.new w2 [.int .i64 2, .int .i64 num, .string ⟨#[]⟩, .int .i64 0, .int .u32 0, .int .i64 (a : Int), .string d, .int .i64 0, .int .i64 0, .bool false, .slice none 0 0] 25)) (one11 num a d) (by omega) (by rw [cutL_length]; unfold maxLen; omega) (by rw [cutL_length]; omega) (by have := HL.out.size; simp; omega) (w2.heap.size + 1) (by simp) ?_)
          intro g6 cap6 w6 q2 q3 q4 q5
          have hK6 : Keep (Value.slice oa (cutL num file m i).length oc).ownBlock.toList w2 w6 := ((Keep.refl _ w2).alloc _).trans (Keep.ofGrownV q3 (fun x hx => by rw [hx]; simp))
          have HR7 := Lib.hid (show URow w6 w.heap.size (.slice (some ⟨g6, 0, none⟩) ((cutL num file m i).length + 1) cap6) (cutL num file m (i + 1)) by
            unfold URow
            rw [HST.out, List.length_append, List.flatMap_append]
            exact q2)
          have HL7 := Lib.hid (HL.out.trans (hK6.toBelowAt HL.out.size (fun j hj => by rw [Option.mem_toList] at hj; exact (HR.out.lt j hj).1)))
          clear q2 q3 q4 q5 hK6 HRA
          go_wp2_with fail
          go_roundg (n - (i + 1))
          case measure => have := HRR.out; omega
          case rel => exact ⟨i + 1, a + m, by omega, rfl, Lib.hid (by rw [ha.out, Nat.succ_mul]), by go_num, HR7.out, HL7.out⟩
    · obtain rfl : i = n := by omega
      have hal : ¬ (a : Int) < (file.size : Int) := by
        have h9 : ¬ i * m < file.size := fun h => hlt ((HPL.out i).2 h)
        have ha9 := ha.out
        generalize i * m = p at h9 ha9
        omega
      go_wp2_with fail
      go_ret2
      exact ⟨_, rfl, HR.out, HL.out⟩
theorem uCut_any (num : Int) (file : ByteArray) (most : Int) (w : World) : Calls Try.prog 20 #[.int .i64 num, .string file, .int .i64 most] w fun e w' => ∃ v, e = .returned (.tuple #[v, .int .i64 (cutS num file most).2]) ∧ URow w' w.heap.size v (cutS num file most).1 ∧ Below w.heap.size w w' := by
  unfold cutS
  by_cases h : ¬ (0 ≤ num ∧ num ≤ 65535) ∨ ¬ (1 ≤ most ∧ most ≤ 160)
  · rw [if_pos h]
    exact (uCut_out num file most w h).mono fun e w' hh => ⟨_, hh.1, URow.nil _ _, hh.2 ▸ Below.refl _ _⟩
  · rw [if_neg h]
    have h1 : 0 ≤ num ∧ num ≤ 65535 := by omega
    have h2 : 1 ≤ most ∧ most ≤ 160 := by omega
    by_cases h3 : 65535 < file.size
    · rw [if_pos h3]
      exact (uCut_long num file most w h1 h2 h3).mono fun e w' hh => ⟨_, hh.1, URow.nil _ _, hh.2 ▸ Below.refl _ _⟩
    · rw [if_neg h3]
      obtain ⟨m, rfl⟩ := Int.eq_ofNat_of_zero_le (by omega : 0 ≤ most)
      exact uCut_in num file m w h1 (by omega) (by omega)
theorem vCut_any (num : Int) (file : ByteArray) (most : Int) (w : World) : Calls Try.prog 21 #[.int .i64 num, .string file, .int .i64 most] w fun e w' => ∃ v, e = .returned (.tuple #[v, .int .i64 (cutS num file most).2]) ∧ URow w' w.heap.size v (cutS num file most).1 ∧ Below w.heap.size w w' := by
  unfold cutS
  by_cases h : ¬ (0 ≤ num ∧ num ≤ 65535) ∨ ¬ (1 ≤ most ∧ most ≤ 160)
  · rw [if_pos h]
    exact (vCut_out num file most w h).mono fun e w' hh => ⟨_, hh.1, URow.nil _ _, hh.2 ▸ Below.refl _ _⟩
  · rw [if_neg h]
    have h1 : 0 ≤ num ∧ num ≤ 65535 := by omega
    have h2 : 1 ≤ most ∧ most ≤ 160 := by omega
    by_cases h3 : 65535 < file.size
    · rw [if_pos h3]
      exact (vCut_long num file most w h1 h2 h3).mono fun e w' hh => ⟨_, hh.1, URow.nil _ _, hh.2 ▸ Below.refl _ _⟩
    · rw [if_neg h3]
      obtain ⟨m, rfl⟩ := Int.eq_ofNat_of_zero_le (by omega : 0 ≤ most)
      exact vCut_in num file m w h1 (by omega) (by omega)
theorem cell_below {w w' : World} {B : Nat} (k : Below B w w') (hB : w.heap.size ≤ B) {p : Addr} {v : Value} (h : w.cell? p = some v) : w'.cell? p = some v := (k.cell (Nat.lt_of_lt_of_le (World.block_lt_of_cell? w p h) hB)).trans h
theorem validS_of {u : Un} (h1 : 1 ≤ u.kind ∧ u.kind ≤ 6) (h2 : 0 ≤ u.num ∧ u.num ≤ 65535) (h3 : fullU u.kind.toNat u = u) : validS u = validU u.kind.toNat u := by
  unfold validS
  rw [decide_eq_true h1, decide_eq_true h2, (sameU_iff _ _).2 h3]; rfl
def shA : Un := ⟨1, 1, ⟨#[102]⟩, 258, 0, 0, ⟨#[]⟩, 0, 0, false, []⟩
def shB : Un := ⟨5, 1, ⟨#[]⟩, 0, 0, 0, ⟨#[]⟩, 0, 0, true, [(0, 2), (5, 9)]⟩
def shC : Un := ⟨5, 1, ⟨#[]⟩, 0, 0, 0, ⟨#[]⟩, 0, 0, false, [(0, 2), (2, 3)]⟩
theorem shA_put : putS shA = ([1, 0, 1, 1, 2, 102, 96, 54], 0) := by
  have h : validS shA = true := (validS_of (by decide) (by decide) rfl).trans (by decide)
  exact (if_pos h).trans (by kernel_rfl)
theorem shB_put : putS shB = ([5, 0, 1, 1, 0, 0, 0, 2, 0, 5, 0, 9, 48, 100], 0) := by
  have h : validS shB = true := (validS_of (by decide) (by decide) rfl).trans (by decide)
  exact (if_pos h).trans (by kernel_rfl)
theorem shC_put : putS shC = ([], 2) := by
  have h : validS shC = false := (validS_of (by decide) (by decide) rfl).trans (by decide)
  unfold putS; rw [if_neg (by rw [h]; decide)]
theorem gaps_two (w : World) (g : Nat) (a b c d : Int) (hB : Blk w g [.int .i64 a, .int .i64 b, .int .i64 c, .int .i64 d] 47) : GapsAt w (.slice (some ⟨g, 0, none⟩) 2 2) [(a, b), (c, d)] := by
  refine ⟨_, _, rfl, fun i hi => ⟨g, 0, rfl, hB.lt, ?_⟩⟩
  have : i = 0 ∨ i = 1 := by simp at hi; omega
  rcases this with rfl | rfl
  · exact ⟨(hB.cell 0).trans rfl, (hB.cell 1).trans rfl⟩
  · exact ⟨(hB.cell 2).trans rfl, (hB.cell 3).trans rfl⟩
theorem s37_put1 (w : World) : Calls Try.prog 12 #[.agg #[.int .i64 1, .int .i64 1, .string ⟨#[102]⟩, .int .i64 258, .int .u32 0, .int .i64 0, .string ⟨#[]⟩, .int .i64 0, .int .i64 0, .bool false, .slice none 0 0]] w fun e w' => e = .returned (.tuple #[.string ⟨#[1, 0, 1, 1, 2, 102, 96, 54]⟩, .int .i64 0]) ∧ Below w.heap.size w w' := by
  have h1 := uPut_any shA (.slice none 0 0) w (by decide) (by decide) (by decide) ⟨by decide, by decide, by decide, by decide, by decide, by decide, by decide, by decide, by decide, by decide, by decide, by decide, by decide, by decide, fun i hi => absurd hi (Nat.not_lt_zero _)⟩ (GapsAt.nil w)
  rw [shA_put] at h1
  exact h1
theorem s37_put2 (w : World) (g : Nat) (hB : Blk w g [.int .i64 0, .int .i64 2, .int .i64 5, .int .i64 9] 47) : Calls Try.prog 12 #[.agg #[.int .i64 5, .int .i64 1, .string ⟨#[]⟩, .int .i64 0, .int .u32 0, .int .i64 0, .string ⟨#[]⟩, .int .i64 0, .int .i64 0, .bool true, .slice (some ⟨g, 0, none⟩) 2 2]] w fun e w' => e = .returned (.tuple #[.string ⟨#[5, 0, 1, 1, 0, 0, 0, 2, 0, 5, 0, 9, 48, 100]⟩, .int .i64 0]) ∧ Below w.heap.size w w' := by
  have h1 := uPut_any shB (.slice (some ⟨g, 0, none⟩) 2 2) w (by decide) (by decide) (by decide) ⟨by decide, by decide, by decide, by decide, by decide, by decide, by decide, by decide, by decide, by decide, by decide, by decide, by decide, by decide, by decide⟩ (gaps_two w g _ _ _ _ hB)
  rw [shB_put] at h1
  exact h1
theorem s37_put3 (w : World) (g : Nat) (hB : Blk w g [.int .i64 0, .int .i64 2, .int .i64 2, .int .i64 3] 47) : Calls Try.prog 12 #[.agg #[.int .i64 5, .int .i64 1, .string ⟨#[]⟩, .int .i64 0, .int .u32 0, .int .i64 0, .string ⟨#[]⟩, .int .i64 0, .int .i64 0, .bool false, .slice (some ⟨g, 0, none⟩) 2 2]] w fun e w' => e = .returned (.tuple #[.string ⟨#[]⟩, .int .i64 2]) ∧ Below w.heap.size w w' := by
  have h1 := uPut_any shC (.slice (some ⟨g, 0, none⟩) 2 2) w (by decide) (by decide) (by decide) ⟨by decide, by decide, by decide, by decide, by decide, by decide, by decide, by decide, by decide, by decide, by decide, by decide, by decide, by decide, by decide⟩ (gaps_two w g _ _ _ _ hB)
  rw [shC_put] at h1
  exact h1
theorem s37_cut (w : World) : Calls Try.prog 20 #[.int .i64 1, .string ⟨#[97, 98, 99, 100, 101]⟩, .int .i64 2] w fun e w' => ∃ g cap, e = .returned (.tuple #[.slice (some ⟨g, 0, none⟩) 3 cap, .int .i64 0]) ∧ Below w.heap.size w w' ∧ w'.cell? ⟨g, 27, none⟩ = some (.int .i64 4) ∧ w'.cell? ⟨g, 28, none⟩ = some (.string ⟨#[101]⟩) := by
  refine (uCut_any 1 ⟨#[97, 98, 99, 100, 101]⟩ 2 w).mono ?_
  rintro e w' ⟨v, rfl, hR, hL⟩
  have h : cutS 1 ⟨#[97, 98, 99, 100, 101]⟩ 2 = (cutL 1 ⟨#[97, 98, 99, 100, 101]⟩ 2 3, 0) := by kernel_rfl
  rw [h] at hR ⊢
  obtain ⟨g, cap, rfl, hg, hc⟩ := hR.cell 2 (by rw [cutL_length]; decide)
  exact ⟨g, cap, rfl, hL, (hc 5 (by decide)).trans (by kernel_rfl), (hc 6 (by decide)).trans (by kernel_rfl)⟩
theorem s37_get (w : World) : Calls Try.prog 17 #[.string ⟨#[0, 0, 0, 0, 0, 0]⟩] w fun e w' => ∃ a cap, e = .returned (.tuple #[.agg #[.int .i64 0, .int .i64 0, .string ⟨#[]⟩, .int .i64 0, .int .u32 0, .int .i64 0, .string ⟨#[]⟩, .int .i64 0, .int .i64 0, .bool false, .slice a 0 cap], .int .i64 370]) ∧ Below w.heap.size w w' := by
  refine (uGet_any ⟨#[0, 0, 0, 0, 0, 0]⟩ w).mono ?_
  rintro e w' ⟨gv, rfl, hG, hL⟩
  have h : getS ⟨#[0, 0, 0, 0, 0, 0]⟩ = (Un.zero, 370) := by
    unfold getS
    rw [if_neg (by decide), if_pos (of_decide_eq_true (by kernel_rfl))]
  rw [h] at hG ⊢
  obtain ⟨a, cap, rfl, -⟩ := hG
  exact ⟨a, cap, rfl, hL⟩
set_option maxHeartbeats 8000000 in
set_option maxRecDepth 100000 in
theorem shown37_any (w : World) : Calls Try.prog 9 #[] w fun e w' => e = .returned (.bool true) ∧ Below w.heap.size w w' := by
  go_enter Try.func9, Try.ntmps9
  go_wp2_with fail
  refine (s37_put1 w).mono ?_
  rintro e w1 ⟨rfl, hL1⟩
  have HL1 := Lib.hid hL1; clear hL1
  go_wp2_with fail
  obtain ⟨wb, hwb⟩ : ∃ wb, wb = w1.heap.size := ⟨_, rfl⟩
  have HB := Lib.hid (show Blk (w1.alloc (Obj.cells #[.int .i64 0, .int .i64 2, .int .i64 5, .int .i64 9] 47)) wb [.int .i64 0, .int .i64 2, .int .i64 5, .int .i64 9] 47 by rw [hwb]; exact Blk.new w1 _ 47)
  rw [← hwb]
  have HL1 := Lib.hid (HL1.out.alloc HL1.out.size (Obj.cells #[.int .i64 0, .int .i64 2, .int .i64 5, .int .i64 9] 47))
  clear hwb
  refine (s37_put2 _ wb HB.out).mono ?_
  rintro e w2 ⟨rfl, hL2⟩
  have HL2 := Lib.hid (HL1.out.trans (hL2.mono HL1.out.size)); clear hL2 HL1 HB
  go_wp2_with fail
  obtain ⟨wb, hwb⟩ : ∃ wb, wb = w2.heap.size := ⟨_, rfl⟩
  have HB := Lib.hid (show Blk (w2.alloc (Obj.cells #[.int .i64 0, .int .i64 2, .int .i64 2, .int .i64 3] 47)) wb [.int .i64 0, .int .i64 2, .int .i64 2, .int .i64 3] 47 by rw [hwb]; exact Blk.new w2 _ 47)
  rw [← hwb]
  have HL2 := Lib.hid (HL2.out.alloc HL2.out.size (Obj.cells #[.int .i64 0, .int .i64 2, .int .i64 2, .int .i64 3] 47))
  clear hwb
  refine (s37_put3 _ wb HB.out).mono ?_
  rintro e w3 ⟨rfl, hL3⟩
  have HL3 := Lib.hid (HL2.out.trans (hL3.mono HL2.out.size)); clear hL3 HL2 HB
  go_wp2_with fail
  refine (s37_cut _).mono ?_
  rintro e w4 ⟨g, cap, rfl, hL4, c1, c2⟩
  have HL4 := Lib.hid (HL3.out.trans (hL4.mono HL3.out.size)); clear hL4 HL3
  go_wp2_with fail
  refine (s37_get _).mono ?_
  rintro e w5 ⟨a5, cap5, rfl, hL5⟩
  have c1 := cell_below hL5 (Nat.le_refl _) c1
  have c2 := cell_below hL5 (Nat.le_refl _) c2
  have hLa := (Below.refl w5.heap.size w5).alloc (Nat.le_refl _) (Obj.cells #[.int .i64 0, .int .i64 0, .string ⟨#[]⟩, .int .i64 0, .int .u32 0, .int .i64 0, .string ⟨#[]⟩, .int .i64 0, .int .i64 0, .bool false, .slice a5 0 cap5] 25)
  have d1 := cell_below hLa (Nat.le_refl _) c1
  have d2 := cell_below hLa (Nat.le_refl _) c2
  have HL5 := Lib.hid ((HL4.out.trans (hL5.mono HL4.out.size)).alloc (HL4.out.trans (hL5.mono HL4.out.size)).size (Obj.cells #[.int .i64 0, .int .i64 0, .string ⟨#[]⟩, .int .i64 0, .int .u32 0, .int .i64 0, .string ⟨#[]⟩, .int .i64 0, .int .i64 0, .bool false, .slice a5 0 cap5] 25)); clear hL5 HL4 hLa c1 c2
  have hx : (ByteArray.mk #[1, 0, 1, 1, 2, 102, 96, 54]).extract 0 6 = ByteArray.mk #[1, 0, 1, 1, 2, 102] := by kernel_rfl
  have hy : (ByteArray.mk #[5, 0, 1, 1, 0, 0, 0, 2, 0, 5, 0, 9, 48, 100]).extract 0 12 = ByteArray.mk #[5, 0, 1, 1, 0, 0, 0, 2, 0, 5, 0, 9] := by kernel_rfl
  go_wp2_with fail
  go_ret
  exact ⟨rfl, HL5.out⟩
end Go.Proofs.Ytkpgenmlpkfokaa
