/- What is proved here: the calls that each law about the automaton on the ground shows first. -/
import Derived.Test.YtbncejmohhejlaaFx
import Derived.Test.YtbncejmohhejlaaF9
set_option linter.unusedVariables false
set_option linter.unusedSimpArgs false
namespace Go.Proofs.Ytbncejmohhejlaa
open Go.RowKit
theorem readV_word (ch by_ nx : Nat) (x y z : Bool) (h1 : ch ≤ 7) (h2 : by_ ≤ 3) (h3 : nx ≤ 255) : readV (wordN ch by_ nx x y z) = .tuple #[.agg #[.int .i64 (ch : Nat), .bool x, .bool y, .bool z, .int .i64 (by_ : Nat), .int .i64 (nx : Nat)], .int .i64 0] := by
  obtain ⟨n, hn⟩ : ∃ n, n = wordN ch by_ nx x y z := ⟨_, rfl⟩
  have hx := bn_le x; have hy := bn_le y; have hz := bn_le z
  have e0 : n = (256 + ch) * 65536 + (by_ + 128 * bn x + 64 * bn y + 32 * bn z) * 256 + nx := hn
  have a1 : n / 65536 % 8 = ch := by omega
  have a2 : n / 256 % 4 = by_ := by omega
  have a3 : n % 256 = nx := by omega
  have bb : ∀ (b : Bool) (m : Nat), m = bn b → (m == 1) = b := by intro b m h; subst h; cases b <;> rfl
  have b15 : n.testBit 15 = x := by rw [bit_div]; exact bb x _ (by omega)
  have b14 : n.testBit 14 = y := by rw [bit_div]; exact bb y _ (by omega)
  have b13 : n.testBit 13 = z := by rw [bit_div]; exact bb z _ (by omega)
  rw [← hn]
  unfold readV rdN rdW
  rw [a1, a2, a3, b15, b14, b13, if_pos hn.symm]
  rfl
set_option maxHeartbeats 1000000 in
theorem word15_any (n : Nat) (w : World) (hn : n ≤ 255) : Calls Try.prog 33 #[.int .i64 (n : Int)] w fun e w' => e = .returned (.int .u32 (wordN 2 0 n false false false : Nat)) ∧ Below w.heap.size w w' := by
  have HP := Lib.hid (rPutWord_ok 2 0 n false false false w (by omega) (by omega) hn)
  simp only [Wd.val] at HP
  go_enter Try.func33, Try.ntmps33
  go_wp2_with fail
  refine HP.out.mono ?_
  rintro e w1 ⟨rfl, hL⟩
  have HL := Lib.hid hL; clear hL
  go_wp2_with fail
  go_ret
  exact ⟨rfl, HL.out⟩
def uA : Ut := ⟨1, ⟨#[97]⟩, false⟩
def uB : Ut := ⟨2, ⟨#[98]⟩, false⟩
def uC : Ut := ⟨3, ⟨#[99]⟩, false⟩
def sh0 : Fs := newF 1 2 2 2 10
def sh1 : Fs := ⟨1, 2, 2, 2, 10, 2, 1, 255, 255, 1, 10, 0, false, false, false, false, false, [], [], [], []⟩
def sh2 : Fs := { sh1 with last := 1, waiting := [uA] }
def sh3 : Fs := { sh1 with last := 2, waiting := [uA, uB] }
def sh4 : Fs := { sh1 with last := 3, waiting := [uA, uB, uC] }
def sh5 : Fs := { sh1 with last := 3, waiting := [uB, uC], sent := [uA] }
def sh6 : Fs := { sh1 with last := 3, waiting := [uC], sent := [uA, uB] }
def sh7 : Fs := { sh1 with last := 3, waiting := [uC], sent := [uB], base := 0 }
def sh8 : Fs := { sh1 with last := 3, waiting := [], sent := [uB, uC], base := 0 }
def sh9 : Fs := { sh1 with last := 3, waiting := [], sent := [], base := 0, service := 0 }
theorem off_of {l : List Ut} (h : ∀ u ∈ l, u.mark = false) : ∀ k, (hk : k < l.length) → l[k].mark = false := fun k hk => h _ (List.getElem_mem hk)
theorem sh_w0 (w : World) : Calls Try.prog 33 #[.int .i64 0] w fun e w' => e = .returned (.int .u32 (wordN 2 0 0 false false false : Nat)) ∧ Below w.heap.size w w' := word15_any 0 w (by omega)
theorem sh_w3 (w : World) : Calls Try.prog 33 #[.int .i64 3] w fun e w' => e = .returned (.int .u32 (wordN 2 0 3 false false false : Nat)) ∧ Below w.heap.size w w' := word15_any 3 w (by omega)
section
variable (g : Nat) (S : List Nat) (w : World)
theorem sh_begin (h : FopIn w g S sh0) : Calls Try.prog 11 #[.pointer (some ⟨g, 0, none⟩), .int .i64 1, .int .i64 255] w fun e w' => e = .returned (.int .i64 0) ∧ FopTo w w' g S sh1 :=
  Begin_ok 1 255 sh0 g S w (by omega) (by omega) (by omega) (by omega) rfl (by decide) h
theorem sh_send1 (h : FopIn w g S sh1) : Calls Try.prog 16 #[.pointer (some ⟨g, 0, none⟩), .string ⟨#[97]⟩] w fun e w' => e = .returned (.tuple #[.int .i64 1, .int .i64 0]) ∧ FopTo w w' g S sh2 :=
  Send_ok sh1 g S w ⟨#[97]⟩ rfl rfl (by decide) (by decide) (by decide) (by decide) h
theorem sh_send2 (h : FopIn w g S sh2) : Calls Try.prog 16 #[.pointer (some ⟨g, 0, none⟩), .string ⟨#[98]⟩] w fun e w' => e = .returned (.tuple #[.int .i64 2, .int .i64 0]) ∧ FopTo w w' g S sh3 :=
  Send_ok sh2 g S w ⟨#[98]⟩ rfl rfl (by decide) (by decide) (by decide) (by decide) h
theorem sh_send3 (h : FopIn w g S sh3) : Calls Try.prog 16 #[.pointer (some ⟨g, 0, none⟩), .string ⟨#[99]⟩] w fun e w' => e = .returned (.tuple #[.int .i64 3, .int .i64 0]) ∧ FopTo w w' g S sh4 :=
  Send_ok sh3 g S w ⟨#[99]⟩ rfl rfl (by decide) (by decide) (by decide) (by decide) h
theorem sh_next1 (hl : ∀ i ∈ S, i < w.heap.size) (h : FopIn w g S sh4) : Calls Try.prog 13 #[.pointer (some ⟨g, 0, none⟩)] w fun e w' => e = .returned (.tuple #[.agg #[.int .i64 1, .int .i64 2, .bool false, .bool false, .int .i64 255, .string ⟨#[97]⟩], .bool true]) ∧ FopTo w w' g S sh5 :=
  Next_new sh4 g S w uA [uB, uC] rfl (by decide) (by decide) (by decide) (off_of (by simp [sh4, sh1])) (by decide) hl rfl rfl rfl rfl rfl (by decide) (by decide) h
theorem sh_next2 (hl : ∀ i ∈ S, i < w.heap.size) (h : FopIn w g S sh5) : Calls Try.prog 13 #[.pointer (some ⟨g, 0, none⟩)] w fun e w' => e = .returned (.tuple #[.agg #[.int .i64 1, .int .i64 2, .bool false, .bool false, .int .i64 0, .string ⟨#[98]⟩], .bool true]) ∧ FopTo w w' g S sh6 :=
  Next_new sh5 g S w uB [uC] rfl (by decide) (by decide) (by decide) (off_of (by simp [sh5, sh1, uA])) (by decide) hl rfl rfl rfl rfl rfl (by decide) (by decide) h
theorem sh_next3 (hl : ∀ i ∈ S, i < w.heap.size) (h : FopIn w g S sh6) : Calls Try.prog 13 #[.pointer (some ⟨g, 0, none⟩)] w fun e w' => e = .returned (.tuple #[.agg #[.int .i64 0, .int .i64 0, .bool false, .bool false, .int .i64 0, .string ⟨#[]⟩], .bool false]) ∧ FopTo w w' g S sh6 :=
  Next_full sh6 g S w (off_of (by simp [sh6, sh1, uA, uB])) (by decide) hl rfl rfl rfl rfl rfl (.inl (by decide)) (by decide) h
theorem sh_word1 (hl : ∀ i ∈ S, i < w.heap.size) (h : FopIn w g S sh6) : Calls Try.prog 15 #[.pointer (some ⟨g, 0, none⟩), .int .u32 (wordN 2 0 0 false false false : Nat)] w fun e w' => ∃ v S', e = .returned (.tuple #[v, .int .i64 0]) ∧ Pt w w' g S S' sh7 ∧ Given w w' S S' [⟨2, 1, 0⟩] v :=
  Word_ready sh6 g S w (wordN 2 0 0 false false false) (2 : Nat) (0 : Nat) (0 : Nat) false false 1 (by decide) (readV_word 2 0 0 false false false (by omega) (by omega) (by omega)) rfl rfl (by decide) (by decide) (by decide) (by decide) (by decide) (by decide) (by decide) (by decide) (by decide) hl h
theorem sh_next4 (hl : ∀ i ∈ S, i < w.heap.size) (h : FopIn w g S sh7) : Calls Try.prog 13 #[.pointer (some ⟨g, 0, none⟩)] w fun e w' => e = .returned (.tuple #[.agg #[.int .i64 1, .int .i64 2, .bool false, .bool false, .int .i64 1, .string ⟨#[99]⟩], .bool true]) ∧ FopTo w w' g S sh8 :=
  Next_new sh7 g S w uC [] rfl (by decide) (by decide) (by decide) (off_of (by simp [sh7, sh1, uB])) (by decide) hl rfl rfl rfl rfl rfl (by decide) (by decide) h
theorem sh_word2 (hl : ∀ i ∈ S, i < w.heap.size) (h : FopIn w g S sh8) : Calls Try.prog 15 #[.pointer (some ⟨g, 0, none⟩), .int .u32 (wordN 2 0 3 false false false : Nat)] w fun e w' => ∃ v S', e = .returned (.tuple #[v, .int .i64 0]) ∧ Pt w w' g S S' sh9 ∧ Given w w' S S' [⟨3, 0, 3⟩] v :=
  Word_fa sh8 g S w (wordN 2 0 3 false false false) (2 : Nat) (0 : Nat) (3 : Nat) false false (by decide) (readV_word 2 0 3 false false false (by omega) (by omega) (by omega)) rfl rfl (by decide) (by decide) (by decide) (by decide) (by decide) (by decide) (by decide) hl h
end
set_option maxHeartbeats 8000000 in
set_option maxRecDepth 100000 in
theorem shown15_any (w : World) : Calls Try.prog 8 #[] w fun e w' => e = .returned (.bool true) ∧ Below w.heap.size w w' := by
  go_enter Try.func8, Try.ntmps8
  go_wp2_with fail
  refine (foNew_ok 1 2 2 2 10 w (by omega) (by omega) (by omega) (by omega) (by omega) (by omega) (by omega) (by omega) (by omega) (by omega)).mono ?_
  rintro e w1 ⟨rfl, hL1, hI⟩
  obtain ⟨g, hg⟩ : ∃ g, g = w.heap.size := ⟨_, rfl⟩
  rw [← hg] at hI ⊢
  have HX := Lib.hid (show Fx w w1 g [] sh0 from Fx.start hg hL1 hI)
  clear hL1 hI hg
  go_wp2_with fail
  obtain ⟨S1, hI, -⟩ := HX.out.call
  refine (Send_down sh0 g S1 _ ⟨#[97]⟩ rfl (by decide) (by decide) hI).mono ?_
  rintro e w2 ⟨rfl, rfl⟩
  clear hI
  go_wp2_with fail
  obtain ⟨S1, hI, hlt, hnx, hgv⟩ := HX.out.call
  refine (sh_begin g S1 _ hI).mono ?_
  rintro e w2 ⟨rfl, hT⟩
  obtain ⟨hX, hR⟩ := hnx hT
  replace HX := Lib.hid hX
  clear hI hlt hnx hgv hX hR hT
  go_wp2_with fail
  obtain ⟨S1, hI, hlt, hnx, hgv⟩ := HX.out.call
  refine (sh_send1 g S1 _ hI).mono ?_
  rintro e w3 ⟨rfl, hT⟩
  obtain ⟨hX, hR⟩ := hnx hT
  replace HX := Lib.hid hX
  clear hI hlt hnx hgv hX hR hT
  go_wp2_with fail
  obtain ⟨S1, hI, hlt, hnx, hgv⟩ := HX.out.call
  refine (sh_send2 g S1 _ hI).mono ?_
  rintro e w4 ⟨rfl, hT⟩
  obtain ⟨hX, hR⟩ := hnx hT
  replace HX := Lib.hid hX
  clear hI hlt hnx hgv hX hR hT
  go_wp2_with fail
  obtain ⟨S1, hI, hlt, hnx, hgv⟩ := HX.out.call
  refine (sh_send3 g S1 _ hI).mono ?_
  rintro e w5 ⟨rfl, hT⟩
  obtain ⟨hX, hR⟩ := hnx hT
  replace HX := Lib.hid hX
  clear hI hlt hnx hgv hX hR hT
  go_wp2_with fail
  obtain ⟨S1, hI, hlt, hnx, hgv⟩ := HX.out.call
  refine (sh_next1 g S1 _ hlt hI).mono ?_
  rintro e w6 ⟨rfl, hT⟩
  obtain ⟨hX, hR⟩ := hnx hT
  replace HX := Lib.hid hX
  clear hI hlt hnx hgv hX hR hT
  obtain ⟨b1, hb1⟩ : ∃ b, b = w6.heap.size := ⟨_, rfl⟩
  have HB1 := Lib.hid (Blk.new_at w6 [.int .i64 1, .int .i64 2, .bool false, .bool false, .int .i64 255, .string ⟨#[97]⟩] 31 b1 hb1)
  replace HX := Lib.hid (show Fx w _ g [b1] sh5 by rw [hb1]; exact HX.out.alloc (Obj.cells #[.int .i64 1, .int .i64 2, .bool false, .bool false, .int .i64 255, .string ⟨#[97]⟩] 31))
  go_upto_region 10 with fail
  rw [← hb1]
  refine gen_world (fun W => Fx w W g [b1] sh5 ∧ Blk W b1 [.int .i64 1, .int .i64 2, .bool false, .bool false, .int .i64 255, .string ⟨#[97]⟩] 31) ⟨HX.out, HB1.out⟩ ?_
  clear HX HB1 hb1
  rintro w7 ⟨hX, hB1⟩
  have HX := Lib.hid hX; have HB1 := Lib.hid hB1; clear hX hB1
  go_wp2_with fail
  obtain ⟨S1, hI, hlt, hnx, hgv⟩ := HX.out.call
  refine (sh_next2 g S1 _ hlt hI).mono ?_
  rintro e w8 ⟨rfl, hT⟩
  obtain ⟨hX, hR⟩ := hnx hT
  replace HX := Lib.hid hX
  replace HB1 := Lib.hid (HB1.out.same (hR _ (by simp)))
  clear hI hlt hnx hgv hX hR hT
  obtain ⟨b2, hb2⟩ : ∃ b, b = w8.heap.size := ⟨_, rfl⟩
  have HB2 := Lib.hid (Blk.new_at w8 [.int .i64 1, .int .i64 2, .bool false, .bool false, .int .i64 0, .string ⟨#[98]⟩] 31 b2 hb2)
  replace HX := Lib.hid (show Fx w _ g (b2 :: ([b1])) sh6 by rw [hb2]; exact HX.out.alloc (Obj.cells #[.int .i64 1, .int .i64 2, .bool false, .bool false, .int .i64 0, .string ⟨#[98]⟩] 31))
  go_upto_region 11 with fail
  rw [← hb2]
  refine gen_world (fun W => Fx w W g (b2 :: ([b1])) sh6 ∧ Blk W b1 [.int .i64 1, .int .i64 2, .bool false, .bool false, .int .i64 255, .string ⟨#[97]⟩] 31 ∧ Blk W b2 [.int .i64 1, .int .i64 2, .bool false, .bool false, .int .i64 0, .string ⟨#[98]⟩] 31) ⟨HX.out, HB1.out.alloc _, HB2.out⟩ ?_
  clear HX hb2 HB1 HB2
  rintro w9 ⟨hX, hB1, hB2⟩
  have HX := Lib.hid hX; have HB1 := Lib.hid hB1; have HB2 := Lib.hid hB2
  clear hX hB1 hB2
  go_wp2_with fail
  obtain ⟨S1, hI, hlt, hnx, hgv⟩ := HX.out.call
  refine (sh_next3 g S1 _ hlt hI).mono ?_
  rintro e w10 ⟨rfl, hT⟩
  obtain ⟨hX, hR⟩ := hnx hT
  replace HX := Lib.hid hX
  replace HB1 := Lib.hid (HB1.out.same (hR _ (by simp)))
  replace HB2 := Lib.hid (HB2.out.same (hR _ (by simp)))
  clear hI hlt hnx hgv hX hR hT
  obtain ⟨b3, hb3⟩ : ∃ b, b = w10.heap.size := ⟨_, rfl⟩
  have HB3 := Lib.hid (Blk.new_at w10 [.int .i64 0, .int .i64 0, .bool false, .bool false, .int .i64 0, .string ⟨#[]⟩] 31 b3 hb3)
  replace HX := Lib.hid (show Fx w _ g (b3 :: ([b2, b1])) sh6 by rw [hb3]; exact HX.out.alloc (Obj.cells #[.int .i64 0, .int .i64 0, .bool false, .bool false, .int .i64 0, .string ⟨#[]⟩] 31))
  go_upto_region 12 with fail
  rw [← hb3]
  refine gen_world (fun W => Fx w W g (b3 :: ([b2, b1])) sh6 ∧ Blk W b1 [.int .i64 1, .int .i64 2, .bool false, .bool false, .int .i64 255, .string ⟨#[97]⟩] 31 ∧ Blk W b2 [.int .i64 1, .int .i64 2, .bool false, .bool false, .int .i64 0, .string ⟨#[98]⟩] 31 ∧ Blk W b3 [.int .i64 0, .int .i64 0, .bool false, .bool false, .int .i64 0, .string ⟨#[]⟩] 31) ⟨HX.out, HB1.out.alloc _, HB2.out.alloc _, HB3.out⟩ ?_
  clear HX hb3 HB1 HB2 HB3
  rintro w11 ⟨hX, hB1, hB2, hB3⟩
  have HX := Lib.hid hX; have HB1 := Lib.hid hB1; have HB2 := Lib.hid hB2; have HB3 := Lib.hid hB3
  clear hX hB1 hB2 hB3
  go_wp2_with fail
  refine (sh_w0 _).mono ?_
  rintro e w12 ⟨rfl, hL⟩
  replace HX := Lib.hid (HX.out.below hL)
  replace HB1 := Lib.hid (HB1.out.below hL HB1.out.lt)
  replace HB2 := Lib.hid (HB2.out.below hL HB2.out.lt)
  replace HB3 := Lib.hid (HB3.out.below hL HB3.out.lt)
  clear hL
  go_wp2_with fail
  obtain ⟨S1, hI, hlt, hnx, hgv⟩ := HX.out.call
  refine (sh_word1 g S1 _ hlt hI).mono ?_
  rintro e w13 ⟨x1, S2, rfl, hP, hG⟩
  obtain ⟨hX, hQ, hR⟩ := hgv hP hG
  replace HX := Lib.hid hX
  replace HB1 := Lib.hid (HB1.out.same (hR _ (by simp)))
  replace HB2 := Lib.hid (HB2.out.same (hR _ (by simp)))
  replace HB3 := Lib.hid (HB3.out.same (hR _ (by simp)))
  have HQ1 := Lib.hid hQ
  clear hI hlt hnx hgv hX hR hP hG hQ
  go_wp2_with fail
  obtain ⟨S1, hI, hlt, hnx, hgv⟩ := HX.out.call
  refine (sh_next4 g S1 _ hlt hI).mono ?_
  rintro e w14 ⟨rfl, hT⟩
  obtain ⟨hX, hR⟩ := hnx hT
  replace HX := Lib.hid hX
  replace HB1 := Lib.hid (HB1.out.same (hR _ (by simp)))
  replace HB2 := Lib.hid (HB2.out.same (hR _ (by simp)))
  replace HB3 := Lib.hid (HB3.out.same (hR _ (by simp)))
  replace HQ1 := Lib.hid (q_same HQ1.out (fun k hk => hR k (by simp [hk])))
  clear hI hlt hnx hgv hX hR hT
  obtain ⟨b4, hb4⟩ : ∃ b, b = w14.heap.size := ⟨_, rfl⟩
  have HB4 := Lib.hid (Blk.new_at w14 [.int .i64 1, .int .i64 2, .bool false, .bool false, .int .i64 1, .string ⟨#[99]⟩] 31 b4 hb4)
  replace HX := Lib.hid (show Fx w _ g (b4 :: (x1.ownBlock.toList ++ [b3, b2, b1])) sh8 by rw [hb4]; exact HX.out.alloc (Obj.cells #[.int .i64 1, .int .i64 2, .bool false, .bool false, .int .i64 1, .string ⟨#[99]⟩] 31))
  go_upto_region 14 with fail
  rw [← hb4]
  refine gen_world (fun W => Fx w W g (b4 :: (x1.ownBlock.toList ++ [b3, b2, b1])) sh8 ∧ Blk W b1 [.int .i64 1, .int .i64 2, .bool false, .bool false, .int .i64 255, .string ⟨#[97]⟩] 31 ∧ Blk W b2 [.int .i64 1, .int .i64 2, .bool false, .bool false, .int .i64 0, .string ⟨#[98]⟩] 31 ∧ Blk W b3 [.int .i64 0, .int .i64 0, .bool false, .bool false, .int .i64 0, .string ⟨#[]⟩] 31 ∧ Blk W b4 [.int .i64 1, .int .i64 2, .bool false, .bool false, .int .i64 1, .string ⟨#[99]⟩] 31 ∧ QRow W 0 46 3 x1 1 (evRow [⟨2, 1, 0⟩])) ⟨HX.out, HB1.out.alloc _, HB2.out.alloc _, HB3.out.alloc _, HB4.out, q_alloc HQ1.out _⟩ ?_
  clear HX hb4 HB1 HB2 HB3 HB4 HQ1
  rintro w15 ⟨hX, hB1, hB2, hB3, hB4, hQ1⟩
  have HX := Lib.hid hX; have HB1 := Lib.hid hB1; have HB2 := Lib.hid hB2; have HB3 := Lib.hid hB3; have HB4 := Lib.hid hB4; have HQ1 := Lib.hid hQ1
  clear hX hB1 hB2 hB3 hB4 hQ1
  go_wp2_with fail
  refine (sh_w3 _).mono ?_
  rintro e w16 ⟨rfl, hL⟩
  replace HX := Lib.hid (HX.out.below hL)
  replace HB1 := Lib.hid (HB1.out.below hL HB1.out.lt)
  replace HB2 := Lib.hid (HB2.out.below hL HB2.out.lt)
  replace HB3 := Lib.hid (HB3.out.below hL HB3.out.lt)
  replace HB4 := Lib.hid (HB4.out.below hL HB4.out.lt)
  replace HQ1 := Lib.hid (q_below HQ1.out hL (Nat.le_refl _))
  clear hL
  go_wp2_with fail
  obtain ⟨S1, hI, hlt, hnx, hgv⟩ := HX.out.call
  refine (sh_word2 g S1 _ hlt hI).mono ?_
  rintro e w17 ⟨x2, S2, rfl, hP, hG⟩
  obtain ⟨hX, hQ, hR⟩ := hgv hP hG
  replace HX := Lib.hid hX
  replace HB1 := Lib.hid (HB1.out.same (hR _ (by simp)))
  replace HB2 := Lib.hid (HB2.out.same (hR _ (by simp)))
  replace HB3 := Lib.hid (HB3.out.same (hR _ (by simp)))
  replace HB4 := Lib.hid (HB4.out.same (hR _ (by simp)))
  replace HQ1 := Lib.hid (q_same HQ1.out (fun k hk => hR k (by simp [hk])))
  have HQ2 := Lib.hid hQ
  clear hI hlt hnx hgv hX hR hP hG hQ
  obtain ⟨q1, o1, c1, hv1, -, -, -, hcl1, -⟩ := q_cells HQ1.out (by decide)
  obtain ⟨q2, o2, c2, hv2, -, -, -, hcl2, -⟩ := q_cells HQ2.out (by decide)
  subst hv1 hv2
  have r0 := hcl1 0 _ rfl; have r1 := hcl1 1 _ rfl; have r2 := hcl1 2 _ rfl
  have t0 := hcl2 0 _ rfl; have t1 := hcl2 1 _ rfl; have t2 := hcl2 2 _ rfl
  simp only [Nat.add_zero] at r0 t0
  have x0 := HB1.out.cell 0
  have x1 := HB1.out.cell 1
  have x2 := HB1.out.cell 2
  have x3 := HB1.out.cell 3
  have x4 := HB1.out.cell 4
  have x5 := HB1.out.cell 5
  simp only [List.getElem?_cons_zero, List.getElem?_cons_succ] at x0 x1 x2 x3 x4 x5
  have y0 := HB2.out.cell 0
  have y1 := HB2.out.cell 1
  have y2 := HB2.out.cell 2
  have y3 := HB2.out.cell 3
  have y4 := HB2.out.cell 4
  have y5 := HB2.out.cell 5
  simp only [List.getElem?_cons_zero, List.getElem?_cons_succ] at y0 y1 y2 y3 y4 y5
  have z0 := HB4.out.cell 0
  have z1 := HB4.out.cell 1
  have z2 := HB4.out.cell 2
  have z3 := HB4.out.cell 3
  have z4 := HB4.out.cell 4
  have z5 := HB4.out.cell 5
  simp only [List.getElem?_cons_zero, List.getElem?_cons_succ] at z0 z1 z2 z3 z4 z5
  clear hcl1 hcl2
  go_wp2_with fail
  obtain ⟨S1, hI, -⟩ := HX.out.call
  refine (Ready_in sh9 g S1 _ (by decide) hI).mono ?_
  rintro e w18 ⟨rfl, rfl⟩
  clear hI
  go_wp2_with fail
  go_ret
  exact ⟨rfl, HX.out.toBelow⟩
end Go.Proofs.Ytbncejmohhejlaa
