/- What is proved here: the walks of the laws on checksums: sums, joins, parts. -/
import Derived.Test.YtdahabokhmgplaaC8
set_option linter.unusedVariables false
set_option linter.unusedSimpArgs false
namespace Go.Proofs.Ytdahabokhmgplaa
open Go.RowKit
attribute [local go_sem] wrap_u8_w16 wrap_u8_w32
theorem wrap_u16_w32 (a : BitVec 32) : IntKind.u16.wrap (w32 a) = w16 (a.setWidth 16) := by
  rw [IntKind.wrap_u16]; unfold w32 w16; rw [BitVec.toNat_setWidth]; simp
theorem w16_of (r : Int) (h0 : 0 ≤ r) (h1 : r ≤ 65535) : ∃ x : BitVec 16, r = w16 x := ⟨BitVec.ofInt 16 r, by unfold w16; rw [BitVec.toNat_ofInt]; omega⟩
theorem w32_of (r : Int) (h0 : 0 ≤ r) (h1 : r ≤ 4294967295) : ∃ x : BitVec 32, r = w32 x := ⟨BitVec.ofInt 32 r, by unfold w32; rw [BitVec.toNat_ofInt]; omega⟩
def sB (l : List UInt8) : ByteArray := ⟨l.toArray⟩
theorem open_ff : open16V ⟨#[255, 255]⟩ = .tuple #[.string ⟨#[]⟩, .int .i64 0] := by
  have : opens ⟨#[255, 255]⟩ = true := by decide +kernel
  rw [open16V, if_pos this]; rfl
theorem closed_nil : strOf (closed []) = .string ⟨#[255, 255]⟩ := by
  have : closed [] = [255, 255] := by decide +kernel
  rw [this]; rfl
set_option maxHeartbeats 4000000 in
theorem awake_any  (w : World) : Calls Try.prog 9 #[] w fun e w' => e = .returned (.bool true) ∧ Below w.heap.size w w' := by
  have HL0 := Lib.hid (Below.refl w.heap.size w)
  go_enter Try.func9, Try.ntmps9
  go_wp2_with fail
  refine (Sum16_any ⟨#[49, 50, 51, 52, 53]⟩ _ (by decide)).mono ?_
  obtain ⟨a, ae⟩ : ∃ a, a = sum16 [49, 50, 51, 52, 53] := ⟨_, rfl⟩
  rw [← ae]
  have HA := Lib.hid ae; clear ae
  rintro e w1 ⟨rfl, hL⟩
  have HL1 := Lib.hid (HL0.out.trans (hL.mono HL0.out.size)); clear hL
  go_wp2_with fail
  refine (Sum16_any ⟨#[54, 55, 56, 57]⟩ _ (by decide)).mono ?_
  obtain ⟨b, be⟩ : ∃ b, b = sum16 [54, 55, 56, 57] := ⟨_, rfl⟩
  rw [← be]
  have HB := Lib.hid be; clear be
  rintro e w2 ⟨rfl, hL⟩
  have HL2 := Lib.hid (HL1.out.trans (hL.mono HL1.out.size)); clear hL
  go_wp2_with fail
  refine (Join16_ok a b 4 _ (by decide)).mono ?_
  rw [show w16 (b ^^^ iter zb16 4 (~~~ a)) = 10673 from by rw [HA.out, HB.out]; decide +kernel]
  rintro e w3 ⟨rfl, hL⟩
  have HL3 := Lib.hid (HL2.out.trans (hL.mono HL2.out.size)); clear hL
  go_wp2_with fail
  refine (Sum32_any ⟨#[49, 50, 51, 52, 53]⟩ _ (by decide)).mono ?_
  obtain ⟨c, ce⟩ : ∃ c, c = sum32 [49, 50, 51, 52, 53] := ⟨_, rfl⟩
  rw [← ce]
  have HC := Lib.hid ce; clear ce
  rintro e w4 ⟨rfl, hL⟩
  have HL4 := Lib.hid (HL3.out.trans (hL.mono HL3.out.size)); clear hL
  go_wp2_with fail
  refine (Sum32_any ⟨#[54, 55, 56, 57]⟩ _ (by decide)).mono ?_
  obtain ⟨d, de⟩ : ∃ d, d = sum32 [54, 55, 56, 57] := ⟨_, rfl⟩
  rw [← de]
  have HD := Lib.hid de; clear de
  rintro e w5 ⟨rfl, hL⟩
  have HL5 := Lib.hid (HL4.out.trans (hL.mono HL4.out.size)); clear hL
  go_wp2_with fail
  refine (Join32_ok c d 4 _ (by decide)).mono ?_
  rw [show w32 (d ^^^ iter zb32 4 (c)) = 3421780262 from by rw [HC.out, HD.out]; decide +kernel]
  rintro e w6 ⟨rfl, hL⟩
  have HL6 := Lib.hid (HL5.out.trans (hL.mono HL5.out.size)); clear hL
  go_wp2_with fail
  refine (Open16_any ⟨#[255, 255]⟩ _ (by decide)).mono ?_
  rw [open_ff]
  rintro e w7 ⟨rfl, hL⟩
  have HL7 := Lib.hid (HL6.out.trans (hL.mono HL6.out.size)); clear hL
  go_wp2_with fail
  refine (Sum16_any ⟨#[49, 50, 51, 52, 53, 54, 55, 56, 57]⟩ _ (by decide)).mono ?_
  rw [show w16 (sum16 [49, 50, 51, 52, 53, 54, 55, 56, 57]) = 10673 from by decide +kernel]
  rintro e w8 ⟨rfl, hL⟩
  have HL8 := Lib.hid (HL7.out.trans (hL.mono HL7.out.size)); clear hL
  go_wp2_with fail
  refine (Sum32_any ⟨#[49, 50, 51, 52, 53, 54, 55, 56, 57]⟩ _ (by decide)).mono ?_
  rw [show w32 (sum32 [49, 50, 51, 52, 53, 54, 55, 56, 57]) = 3421780262 from by decide +kernel]
  rintro e w9 ⟨rfl, hL⟩
  have HL9 := Lib.hid (HL8.out.trans (hL.mono HL8.out.size)); clear hL
  go_wp2_with fail
  refine (Next16_any 0#16 ⟨#[1]⟩ _ (by decide)).mono ?_
  rw [show w16 (next16 0#16 [1]) = 4129 from by decide +kernel]
  rintro e w10 ⟨rfl, hL⟩
  have HL10 := Lib.hid (HL9.out.trans (hL.mono HL9.out.size)); clear hL
  go_wp2_with fail
  refine (Next32_any 0#32 ⟨#[]⟩ _ (by decide)).mono ?_
  rw [show w32 (next32 0#32 []) = 0 from by decide +kernel]
  rintro e w11 ⟨rfl, hL⟩
  have HL11 := Lib.hid (HL10.out.trans (hL.mono HL10.out.size)); clear hL
  go_wp2_with fail
  refine (Close16_any ⟨#[]⟩ _ (by decide)).mono ?_
  rw [closed_nil]
  rintro e w12 ⟨rfl, hL⟩
  have HL12 := Lib.hid (HL11.out.trans (hL.mono HL11.out.size)); clear hL
  go_wp2_with fail
  go_ret
  exact ⟨rfl, HL12.out⟩
set_option maxHeartbeats 4000000 in
theorem sums_walk (b : ByteArray) (r : BitVec 16) (s : BitVec 32) (w : World) : Calls Try.prog 3 #[.string b, .int .u16 (w16 r), .int .u32 (w32 s)] w fun e w' => e = .returned (.bool true) ∧ Below w.heap.size w w' := by
  have HL0 := Lib.hid (Below.refl w.heap.size w)
  by_cases hl : b.size ≤ 20000
  · skip
    go_enter Try.func3, Try.ntmps3
    go_wp2_with fail
    refine (Sum16_any b _ (by omega)).mono ?_
    obtain ⟨x, xe⟩ : ∃ x, x = sum16 b.data.toList := ⟨_, rfl⟩
    rw [← xe]
    have HX := Lib.hid xe; clear xe
    rintro e w1 ⟨rfl, hL⟩
    have HL1 := Lib.hid (HL0.out.trans (hL.mono HL0.out.size)); clear hL
    go_wp2_with fail
    refine (rSum16 b _ (by omega)).mono ?_
    rw [← HX.out]
    rintro e w2 ⟨rfl, hL⟩
    have HL2 := Lib.hid (hL ▸ HL1.out); clear hL
    go_wp2_with fail
    refine (Sum32_any b _ (by omega)).mono ?_
    obtain ⟨y, ye⟩ : ∃ y, y = sum32 b.data.toList := ⟨_, rfl⟩
    rw [← ye]
    have HY := Lib.hid ye; clear ye
    rintro e w3 ⟨rfl, hL⟩
    have HL3 := Lib.hid (HL2.out.trans (hL.mono HL2.out.size)); clear hL
    go_wp2_with fail
    refine (rSum32 b _ (by omega)).mono ?_
    rw [← HY.out]
    rintro e w4 ⟨rfl, hL⟩
    have HL4 := Lib.hid (hL ▸ HL3.out); clear hL
    go_wp2_with fail
    refine (Next16_any r b _ (by omega)).mono ?_
    obtain ⟨z, ze⟩ : ∃ z, z = next16 r b.data.toList := ⟨_, rfl⟩
    rw [← ze]
    have HZ := Lib.hid ze; clear ze
    rintro e w5 ⟨rfl, hL⟩
    have HL5 := Lib.hid (HL4.out.trans (hL.mono HL4.out.size)); clear hL
    go_wp2_with fail
    refine (rNext16 r b _ (by omega)).mono ?_
    rw [← HZ.out]
    rintro e w6 ⟨rfl, hL⟩
    have HL6 := Lib.hid (hL ▸ HL5.out); clear hL
    go_wp2_with fail
    refine (Next32_any s b _ (by omega)).mono ?_
    obtain ⟨t, te⟩ : ∃ t, t = next32 s b.data.toList := ⟨_, rfl⟩
    rw [← te]
    have HT := Lib.hid te; clear te
    rintro e w7 ⟨rfl, hL⟩
    have HL7 := Lib.hid (HL6.out.trans (hL.mono HL6.out.size)); clear hL
    go_wp2_with fail
    refine (rNext32 s b _ (by omega)).mono ?_
    rw [← HT.out]
    rintro e w8 ⟨rfl, hL⟩
    have HL8 := Lib.hid (hL ▸ HL7.out); clear hL
    go_wp2_with fail
    refine (awake_any _).mono ?_
    rintro e w9 ⟨rfl, hL⟩
    have HL9 := Lib.hid (HL8.out.trans (hL.mono HL8.out.size)); clear hL
    go_wp2_with fail
    go_ret
    exact ⟨rfl, HL9.out⟩
  · skip
    go_enter Try.func3, Try.ntmps3
    go_wp2_with fail
    refine (awake_any _).mono ?_
    rintro e w1 ⟨rfl, hL⟩
    have HL1 := Lib.hid (HL0.out.trans (hL.mono HL0.out.size)); clear hL
    go_wp2_with fail
    go_ret
    exact ⟨rfl, HL1.out⟩
theorem sums_walk2 (b : ByteArray) (r s : Int) (h1 : 0 ≤ r) (h2 : r ≤ 65535) (h3 : 0 ≤ s) (h4 : s ≤ 4294967295) (w : World) : Calls Try.prog 3 #[.string b, .int .u16 r, .int .u32 s] w fun e w' => e = .returned (.bool true) ∧ Below w.heap.size w w' := by
  obtain ⟨x, rfl⟩ := w16_of r h1 h2
  obtain ⟨y, rfl⟩ := w32_of s h3 h4
  exact sums_walk b x y w
attribute [local go_sem] wrap_u16_w32
set_option maxHeartbeats 4000000 in
theorem joins_walk (a b : BitVec 32) (n : Int) (w : World) : Calls Try.prog 4 #[.int .u32 (w32 a), .int .u32 (w32 b), .int .i64 n] w fun e w' => e = .returned (.bool true) ∧ Below w.heap.size w w' := by
  have HL0 := Lib.hid (Below.refl w.heap.size w)
  by_cases hn : 0 ≤ n ∧ n ≤ 1073741824
  · obtain ⟨k, rfl⟩ := Int.eq_ofNat_of_zero_le hn.1
    have hk : k ≤ 1073741824 := by omega
    go_enter Try.func4, Try.ntmps4
    go_wp2_with fail
    refine (Join16_ok (a.setWidth 16) (b.setWidth 16) k _ hk).mono ?_
    obtain ⟨x, xe⟩ : ∃ x, x = (b.setWidth 16) ^^^ iter zb16 k (~~~ (a.setWidth 16)) := ⟨_, rfl⟩
    rw [← xe]
    have HX := Lib.hid xe; clear xe
    rintro e w1 ⟨rfl, hL⟩
    have HL1 := Lib.hid (HL0.out.trans (hL.mono HL0.out.size)); clear hL
    go_wp2_with fail
    refine (rJoin16_ok (a.setWidth 16) (b.setWidth 16) k _ hk).mono ?_
    rw [← HX.out]
    rintro e w2 ⟨rfl, hL⟩
    have HL2 := Lib.hid (HL1.out.trans (hL.mono HL1.out.size)); clear hL
    go_wp2_with fail
    refine (Join32_ok a b k _ hk).mono ?_
    obtain ⟨y, ye⟩ : ∃ y, y = b ^^^ iter zb32 k a := ⟨_, rfl⟩
    rw [← ye]
    have HY := Lib.hid ye; clear ye
    rintro e w3 ⟨rfl, hL⟩
    have HL3 := Lib.hid (HL2.out.trans (hL.mono HL2.out.size)); clear hL
    go_wp2_with fail
    refine (rJoin32_ok a b k _ hk).mono ?_
    rw [← HY.out]
    rintro e w4 ⟨rfl, hL⟩
    have HL4 := Lib.hid (HL3.out.trans (hL.mono HL3.out.size)); clear hL
    go_wp2_with fail
    refine (awake_any _).mono ?_
    rintro e w5 ⟨rfl, hL⟩
    have HL5 := Lib.hid (HL4.out.trans (hL.mono HL4.out.size)); clear hL
    go_wp2_with fail
    go_ret
    exact ⟨rfl, HL5.out⟩
  · have hb : n < 0 ∨ 1073741824 < n := by omega
    go_enter Try.func4, Try.ntmps4
    go_wp2_with fail
    refine (Join16_bad (a.setWidth 16) (b.setWidth 16) n _ hb).mono ?_
    rintro e w1 ⟨rfl, hL⟩
    have HL1 := Lib.hid (HL0.out.trans (hL.mono HL0.out.size)); clear hL
    go_wp2_with fail
    refine (rJoin16_bad (a.setWidth 16) (b.setWidth 16) n _ hb).mono ?_
    rintro e w2 ⟨rfl, hL⟩
    have HL2 := Lib.hid (HL1.out.trans (hL.mono HL1.out.size)); clear hL
    go_wp2_with fail
    refine (Join32_bad a b n _ hb).mono ?_
    rintro e w3 ⟨rfl, hL⟩
    have HL3 := Lib.hid (HL2.out.trans (hL.mono HL2.out.size)); clear hL
    go_wp2_with fail
    refine (rJoin32_bad a b n _ hb).mono ?_
    rintro e w4 ⟨rfl, hL⟩
    have HL4 := Lib.hid (HL3.out.trans (hL.mono HL3.out.size)); clear hL
    go_wp2_with fail
    refine (awake_any _).mono ?_
    rintro e w5 ⟨rfl, hL⟩
    have HL5 := Lib.hid (HL4.out.trans (hL.mono HL4.out.size)); clear hL
    go_wp2_with fail
    go_ret
    exact ⟨rfl, HL5.out⟩
theorem joins_walk2 (a b n : Int) (h1 : 0 ≤ a) (h2 : a ≤ 4294967295) (h3 : 0 ≤ b) (h4 : b ≤ 4294967295) (w : World) : Calls Try.prog 4 #[.int .u32 a, .int .u32 b, .int .i64 n] w fun e w' => e = .returned (.bool true) ∧ Below w.heap.size w w' := by
  obtain ⟨x, rfl⟩ := w32_of a h1 h2
  obtain ⟨y, rfl⟩ := w32_of b h3 h4
  exact joins_walk x y n w
set_option maxHeartbeats 4000000 in
theorem parts_walk (x y : ByteArray) (w : World) : Calls Try.prog 5 #[.string x, .string y] w fun e w' => e = .returned (.bool true) ∧ Below w.heap.size w w' := by
  have HL0 := Lib.hid (Below.refl w.heap.size w)
  by_cases hl : x.size ≤ 20000
  · by_cases hm : y.size ≤ 20000
    · have hl1 : decide ((20000 : Int) < (x.size : Int)) = false := by simp; omega
      have hm1 : decide ((20000 : Int) < (y.size : Int)) = false := by simp; omega
      have hj1 := sum16_join x.data.toList y.data.toList
      have hj2 := sum32_join x.data.toList y.data.toList
      have hn1 : next16 (sum16 x.data.toList) y.data.toList = sum16 (x.data.toList ++ y.data.toList) := (next16_append _ _ _).symm
      have hn2 : next32 (sum32 x.data.toList) y.data.toList = sum32 (x.data.toList ++ y.data.toList) := (next32_append _ _ _).symm
      rw [show y.data.toList.length = y.size by simp] at hj1 hj2
      have hxy : (x ++ y).data.toList = x.data.toList ++ y.data.toList := by simp
      have hxs : (x ++ y).size ≤ 1000000000 := by simp; omega
      obtain ⟨t, ht⟩ : ∃ t, t = sum16 (x.data.toList ++ y.data.toList) := ⟨_, rfl⟩
      obtain ⟨u, hu⟩ : ∃ u, u = sum32 (x.data.toList ++ y.data.toList) := ⟨_, rfl⟩
      rw [← ht] at hj1 hn1
      rw [← hu] at hj2 hn2
      have HXY := Lib.hid hxy; have HTT := Lib.hid ht; have HUU := Lib.hid hu; clear hxy ht hu
      obtain ⟨p, pe⟩ : ∃ p, p = sum16 x.data.toList := ⟨_, rfl⟩
      obtain ⟨q, qe⟩ : ∃ q, q = sum32 x.data.toList := ⟨_, rfl⟩
      rw [← pe] at hj1 hn1
      rw [← qe] at hj2 hn2
      have HP := Lib.hid pe; have HQ := Lib.hid qe; have HJ1 := Lib.hid hj1; have HJ2 := Lib.hid hj2; have HN1 := Lib.hid hn1; have HN2 := Lib.hid hn2; clear pe qe hj1 hj2 hn1 hn2
      go_enter Try.func5, Try.ntmps5
      go_wp2_with fail
      refine (Sum16_any x _ (by omega)).mono ?_
      rw [← HP.out]
      rintro e w1 ⟨rfl, hL⟩
      have HL1 := Lib.hid (HL0.out.trans (hL.mono HL0.out.size)); clear hL
      go_wp2_with fail
      refine (Sum16_any y _ (by omega)).mono ?_
      obtain ⟨r, re⟩ : ∃ r, r = sum16 y.data.toList := ⟨_, rfl⟩
      rw [← re]
      have HJ1r := Lib.hid (re ▸ HJ1.out); clear re
      rintro e w2 ⟨rfl, hL⟩
      have HL2 := Lib.hid (HL1.out.trans (hL.mono HL1.out.size)); clear hL
      go_wp2_with fail
      refine (Join16_ok p r y.size _ (by omega)).mono ?_
      rw [← HJ1r.out]
      rintro e w3 ⟨rfl, hL⟩
      have HL3 := Lib.hid (HL2.out.trans (hL.mono HL2.out.size)); clear hL
      go_wp2_with fail
      refine (Sum32_any x _ (by omega)).mono ?_
      rw [← HQ.out]
      rintro e w4 ⟨rfl, hL⟩
      have HL4 := Lib.hid (HL3.out.trans (hL.mono HL3.out.size)); clear hL
      go_wp2_with fail
      refine (Sum32_any y _ (by omega)).mono ?_
      obtain ⟨s, se⟩ : ∃ s, s = sum32 y.data.toList := ⟨_, rfl⟩
      rw [← se]
      have HJ2s := Lib.hid (se ▸ HJ2.out); clear se
      rintro e w5 ⟨rfl, hL⟩
      have HL5 := Lib.hid (HL4.out.trans (hL.mono HL4.out.size)); clear hL
      go_wp2_with fail
      refine (Join32_ok q s y.size _ (by omega)).mono ?_
      rw [← HJ2s.out]
      rintro e w6 ⟨rfl, hL⟩
      have HL6 := Lib.hid (HL5.out.trans (hL.mono HL5.out.size)); clear hL
      go_wp2_with fail
      refine (Sum16_any (x ++ y) _ hxs).mono ?_
      rw [HXY.out, ← HTT.out]
      rintro e w7 ⟨rfl, hL⟩
      have HL7 := Lib.hid (HL6.out.trans (hL.mono HL6.out.size)); clear hL
      go_wp2_with fail
      refine (Sum32_any (x ++ y) _ hxs).mono ?_
      rw [HXY.out, ← HUU.out]
      rintro e w8 ⟨rfl, hL⟩
      have HL8 := Lib.hid (HL7.out.trans (hL.mono HL7.out.size)); clear hL
      go_wp2_with fail
      refine (Sum16_any x _ (by omega)).mono ?_
      rw [← HP.out]
      rintro e w9 ⟨rfl, hL⟩
      have HL9 := Lib.hid (HL8.out.trans (hL.mono HL8.out.size)); clear hL
      go_wp2_with fail
      refine (Next16_any p y _ (by omega)).mono ?_
      rw [HN1.out]
      rintro e w10 ⟨rfl, hL⟩
      have HL10 := Lib.hid (HL9.out.trans (hL.mono HL9.out.size)); clear hL
      go_wp2_with fail
      refine (Sum32_any x _ (by omega)).mono ?_
      rw [← HQ.out]
      rintro e w11 ⟨rfl, hL⟩
      have HL11 := Lib.hid (HL10.out.trans (hL.mono HL10.out.size)); clear hL
      go_wp2_with fail
      refine (Next32_any q y _ (by omega)).mono ?_
      rw [HN2.out]
      rintro e w12 ⟨rfl, hL⟩
      have HL12 := Lib.hid (HL11.out.trans (hL.mono HL11.out.size)); clear hL
      go_wp2_with fail
      refine (awake_any _).mono ?_
      rintro e w13 ⟨rfl, hL⟩
      have HL13 := Lib.hid (HL12.out.trans (hL.mono HL12.out.size)); clear hL
      go_wp2_with fail
      go_ret
      exact ⟨rfl, HL13.out⟩
    · have hl1 : decide ((20000 : Int) < (x.size : Int)) = false := by simp; omega
      have hm1 : decide ((20000 : Int) < (y.size : Int)) = true := by simp; omega
      go_enter Try.func5, Try.ntmps5
      go_wp2_with fail
      refine (awake_any _).mono ?_
      rintro e w1 ⟨rfl, hL⟩
      have HL1 := Lib.hid (HL0.out.trans (hL.mono HL0.out.size)); clear hL
      go_wp2_with fail
      go_ret
      exact ⟨rfl, HL1.out⟩
  · have hl1 : decide ((20000 : Int) < (x.size : Int)) = true := by simp; omega
    go_enter Try.func5, Try.ntmps5
    go_wp2_with fail
    refine (awake_any _).mono ?_
    rintro e w1 ⟨rfl, hL⟩
    have HL1 := Lib.hid (HL0.out.trans (hL.mono HL0.out.size)); clear hL
    go_wp2_with fail
    go_ret
    exact ⟨rfl, HL1.out⟩
end Go.Proofs.Ytdahabokhmgplaa
