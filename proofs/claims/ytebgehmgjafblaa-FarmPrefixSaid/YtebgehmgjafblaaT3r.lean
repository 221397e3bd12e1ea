/- What is proved here: the walk of the reference's Put. -/
import Derived.Test.YtebgehmgjafblaaT3
import Derived.Deep.RegionHeld3
import Derived.Deep.RegionWith
import Derived.IntWalk
set_option linter.unusedVariables false
set_option linter.unusedSimpArgs false
namespace Go.Proofs.Ytebgehmgjafblaa
open Go.RowKit
set_option maxHeartbeats 40000000 in
set_option maxRecDepth 100000 in
theorem rPut_bad (x : Tc) (w : World) (hg : x.good = false) : Calls Try.prog 30 #[x.val] w fun e w' => e = .returned (.tuple #[strOf [], .int .i64 2]) ∧ Below w.heap.size w w' := by
  have hv := Valid_any x
  rw [hg] at hv
  obtain ⟨c, ch, b, k, s, d⟩ := x
  simp only [Tc.val] at hv ⊢
  have HV := Lib.hid hv; clear hv hg
  go_enter Try.func30, Try.ntmps30
  go_wp2_with fail
  refine (HV.out _).mono ?_
  rintro e w1 ⟨rfl, hL1⟩
  have HL0 := Lib.hid ((Below.refl w.heap.size w).alloc (Nat.le_refl _) (Obj.cells #[.int .i64 c, .int .i64 ch, .bool b, .bool k, .int .i64 s, .string d] 30))
  have HL1 := Lib.hid (HL0.out.trans (hL1.mono HL0.out.size)); clear hL1
  go_wp2_with fail
  go_ret2
  exact ⟨rfl, HL1.out⟩
def RestP (w w' : World) : Prop := Below w.heap.size w w' ∧ w.heap.size + 1 ≤ w'.heap.size
theorem gen_post {F : Exit → Act → World → Prop} {a : Act} {W : World} (φ : World → Prop) (h : φ W) (g : ∀ w, φ w → F .normal a w) : F .normal a W := g W h
theorem rest_of {A B C : Prop} {w w' : World} (h : A ∧ B ∧ C ∧ RestP w w') : RestP w w' := h.2.2.2
theorem held_below {w w' w'' : World} {v1 v4 v5 : Value} (h : w'.cell? ⟨w.heap.size, 1, none⟩ = some v1 ∧ w'.cell? ⟨w.heap.size, 4, none⟩ = some v4 ∧ w'.cell? ⟨w.heap.size, 5, none⟩ = some v5 ∧ RestP w w') (hb : Below w'.heap.size w' w'') :
    w''.cell? ⟨w.heap.size, 1, none⟩ = some v1 ∧ w''.cell? ⟨w.heap.size, 4, none⟩ = some v4 ∧ w''.cell? ⟨w.heap.size, 5, none⟩ = some v5 ∧ RestP w w'' := by
  obtain ⟨h1, h4, h5, hr⟩ := h
  have hlt : w.heap.size < w'.heap.size := hr.2
  refine ⟨?_, ?_, ?_, hr.1.trans (hb.mono hr.1.size), by have := hb.size; have := hr.2; omega⟩
  · rw [hb.cell (p := ⟨w.heap.size, 1, none⟩) hlt]; exact h1
  · rw [hb.cell (p := ⟨w.heap.size, 4, none⟩) hlt]; exact h4
  · rw [hb.cell (p := ⟨w.heap.size, 5, none⟩) hlt]; exact h5
theorem held_drew {w w' : World} {v1 v4 v5 : Value} (h : w'.cell? ⟨w.heap.size, 1, none⟩ = some v1 ∧ w'.cell? ⟨w.heap.size, 4, none⟩ = some v4 ∧ w'.cell? ⟨w.heap.size, 5, none⟩ = some v5 ∧ RestP w w') :
    w'.drew.cell? ⟨w.heap.size, 1, none⟩ = some v1 ∧ w'.drew.cell? ⟨w.heap.size, 4, none⟩ = some v4 ∧ w'.drew.cell? ⟨w.heap.size, 5, none⟩ = some v5 ∧ RestP w w'.drew := held_below h (Below.refl _ _).drew
theorem held_alloc {w w' : World} {v1 v4 v5 : Value} (o : Obj) (h : w'.cell? ⟨w.heap.size, 1, none⟩ = some v1 ∧ w'.cell? ⟨w.heap.size, 4, none⟩ = some v4 ∧ w'.cell? ⟨w.heap.size, 5, none⟩ = some v5 ∧ RestP w w') :
    (w'.alloc o).cell? ⟨w.heap.size, 1, none⟩ = some v1 ∧ (w'.alloc o).cell? ⟨w.heap.size, 4, none⟩ = some v4 ∧ (w'.alloc o).cell? ⟨w.heap.size, 5, none⟩ = some v5 ∧ RestP w (w'.alloc o) := held_below h ((Below.refl _ _).alloc (Nat.le_refl _) _)
set_option maxHeartbeats 4000000 in
set_option maxRecDepth 100000 in
theorem rPut_ok (c ch s : Nat) (b k : Bool) (d : ByteArray) (w : World) (hc : c < 256) (hch : ch < 8) (hs : s < 256) (hd1 : 1 ≤ d.size) (hd2 : d.size ≤ 200) (hbk : (b || !k) = true) :
    Calls Try.prog 30 #[(Tc.mk c ch b k s d).val] w fun e w' => e = .returned (.tuple #[strOf (Tc.mk c ch b k s d).enc, .int .i64 0]) ∧ Below w.heap.size w w' := by
  have hg : (Tc.mk c ch b k s d).good = true := by rw [Tc.good_iff]; simp [hbk]; omega
  have hv := Valid_any (Tc.mk c ch b k s d)
  rw [hg] at hv
  have hsb : ((s : Nat) : Int) = ((UInt8.ofNat s).toNat : Int) := by rw [UInt8.toNat_ofNat']; omega
  have HSB := Lib.hid hsb; clear hsb
  obtain ⟨sz, hsz⟩ : ∃ sz, sz = ch * 1024 + (d.size + 6) := ⟨_, rfl⟩
  have ho4 : (ch : Int) * 1024 + (d.size : Int) + 6 = (sz : Int) := by omega
  have hsz2 : sz < 65536 := by omega
  have HO4 := Lib.hid ho4; clear ho4
  have HSZ := Lib.hid hsz; clear hsz
  have HB := Lib.hid (Blk.new w (Tc.mk c ch b k s d).cells 30)
  have HL0 := Lib.hid ((Below.refl w.heap.size w).alloc (Nat.le_refl _) (Obj.cells #[.int .i64 c, .int .i64 ch, .bool b, .bool k, .int .i64 s, .string d] 30))
  obtain ⟨hd, hhd⟩ : ∃ hd, hd = c + (if b then 8192 else 0) + (if k then 4096 else 0) := ⟨_, rfl⟩
  have hen : (Tc.mk c ch b k s d).body = be2 hd ++ be2 sz ++ [UInt8.ofNat s] ++ d.data.toList := by
    rw [hhd, HSZ.out]; simp [Tc.body, Tc.headN, Tc.sizeN]
  have HEN := Lib.hid hen; clear hen
  have HHD := Lib.hid hhd
  have hd3 : hd < 65536 := by rw [hhd]; split <;> split <;> omega
  simp only [Tc.val] at hv ⊢
  have HV := Lib.hid hv; clear hv hg
  obtain ⟨sa, ha, hal, has⟩ := strOf_is (be2 hd)
  have HA1 := Lib.hid (fun w => two_any hd w hd3)
  rw [ha] at HA1
  have HAL := Lib.hid hal; clear hal ha
  have has2 : sa.size ≤ 2 := by rw [has]; simp [be2]
  clear has
  obtain ⟨sb, ha, hbl, hbsz⟩ := strOf_is (be2 sz)
  have HA2 := Lib.hid (fun w => two_any sz w hsz2)
  rw [ha] at HA2
  have HBL := Lib.hid hbl; clear hbl ha
  have hbs2 : sb.size ≤ 2 := by rw [hbsz]; simp [be2]
  clear hbsz
  obtain ⟨sc, hsc⟩ : ∃ sc : ByteArray, sc = ⟨#[UInt8.ofNat s]⟩ := ⟨_, rfl⟩
  have hcs2 : sc.size ≤ 1 := by rw [hsc]; exact Nat.le_refl _
  have hbs := fun W => byte_string W (s : Int) (UInt8.ofNat s) HSB.out
  rw [← hsc] at hbs
  have HBS := Lib.hid hbs; clear hbs
  have hbf : ∀ W W' : World, Below (W.alloc (.cells #[.int .u8 (s : Int)] 5)).heap.size (W.alloc (.cells #[.int .u8 (s : Int)] 5)) W' → Blk W' W.heap.size [.int .u8 (s : Int)] 5 := fun W W' h => (Blk.new W [.int .u8 (s : Int)] 5).below h (by simp)
  have HBF := Lib.hid hbf; clear hbf
  have hbd : ∀ W W' : World, Below (W.alloc (.cells #[.int .u8 (s : Int)] 5)).drew.heap.size (W.alloc (.cells #[.int .u8 (s : Int)] 5)).drew W' → Blk W' W.heap.size [.int .u8 (s : Int)] 5 := fun W W' h => (Blk.new W [.int .u8 (s : Int)] 5).drew.below h (by simp)
  have HBD := Lib.hid hbd; clear hbd
  have hbc : ∀ (W : World) (g : Nat), Blk W g [.int .u8 (s : Int)] 5 → (convert 40 9 (.slice (some ⟨g, 0, none⟩) 1 1)).run Try.prog W = .ok (.string sc) W := fun W g h => by
    have e : ((s : Nat) : Int) = ((UInt8.ofNat s).toNat : Int) := HSB.out
    rw [e] at h
    have := run_string (w := W) (base := g) (v := .slice (some ⟨g, 0, none⟩) 1 1) (xs := [UInt8.ofNat s]) (.inr ⟨g, 1, _, _, rfl, Nat.le_refl _, h, .inl rfl, Nat.le_refl _, by decide, rfl, rfl⟩)
    rw [this, hsc]
  have hbs3 : ∀ W : World, (convert 40 9 (.slice (some ⟨W.heap.size, 0, none⟩) 1 1)).run Try.prog (W.alloc (.cells #[.int .u8 (s : Int)] 5)).drew = .ok (.string sc) (W.alloc (.cells #[.int .u8 (s : Int)] 5)).drew := fun W => hbc _ _ (Blk.new W [.int .u8 (s : Int)] 5).drew
  have HB3 := Lib.hid hbs3; clear hbs3
  have HBC := Lib.hid hbc; clear hbc
  have HCL := Lib.hid hsc; clear hsc
  obtain ⟨l, hl⟩ : ∃ l, l = be2 hd ++ be2 sz ++ [UInt8.ofNat s] ++ d.data.toList := ⟨_, rfl⟩
  have htl : (sa ++ sb ++ sc ++ d).data.toList = l := by rw [hl, HCL.out]; simp [HAL.out, HBL.out]
  have hts : (sa ++ sb ++ sc ++ d).size ≤ 300 := by simp only [ByteArray.size_append]; omega
  obtain ⟨sm, hsm⟩ : ∃ sm, sm = sum16 l := ⟨_, rfl⟩
  have hS := fun w => rSum16 (sa ++ sb ++ sc ++ d) w (by omega)
  simp only [htl, ← hsm, w16_def] at hS
  have hsm3 : sm.toNat < 65536 := sm.isLt
  have hen2 : (Tc.mk c ch b k s d).enc = l ++ be2 sm.toNat := by rw [Tc.enc, HEN.out, ← hl, ← hsm]
  obtain ⟨se, he, hel, hesz⟩ := strOf_is (be2 sm.toNat)
  have hA3 := fun w => two_any sm.toNat w hsm3
  rw [he] at hA3
  have hes2 : se.size ≤ 2 := by rw [hesz]; simp [be2]
  have hfin : strOf (Tc.mk c ch b k s d).enc = .string (sa ++ sb ++ sc ++ d ++ se) := by rw [str_append, htl, hel, hen2]
  have HA3 := Lib.hid hA3
  have HS := Lib.hid hS
  have HF := Lib.hid hfin
  clear hl htl hsm hS he hel hesz hA3 hfin hen2
  cases b <;> cases k
  · have hd2 : hd = c := by simpa using hhd
    clear hhd
    subst hd2
    go_enter Try.func30, Try.ntmps30
    go_wp2_with fail
    refine (HV.out _).mono ?_
    rintro e w1 ⟨rfl, hL1⟩
    have HL1 := Lib.hid (HL0.out.trans (hL1.mono HL0.out.size))
    have hs1 : w.heap.size + 1 ≤ w1.heap.size := by have := hL1.size; simp at this; omega
    have HB1 := Lib.hid (HB.out.below hL1 (by simp)); clear hL1
    have c0 := HB1.out.cell 0
    have c1 := HB1.out.cell 1
    have c2 := HB1.out.cell 2
    have c3 := HB1.out.cell 3
    have c4 := HB1.out.cell 4
    have c5 := HB1.out.cell 5
    simp only [Tc.cells, List.getElem?_cons_zero, List.getElem?_cons_succ] at c0 c1 c2 c3 c4 c5
    go_wp2_with fail
    clear c0 c2 c3
    have hw1 : IntKind.i64.wrap ((ch : Int) * 1024) = (ch : Int) * 1024 := IntWalk.i64_in _ (by omega)
    have hw2 : IntKind.i64.wrap ((ch : Int) * 1024 + (d.size : Int)) = (ch : Int) * 1024 + (d.size : Int) := IntWalk.i64_in _ (by omega)
    have hw3 : IntKind.i64.wrap ((ch : Int) * 1024 + (d.size : Int) + 6) = (sz : Int) := (IntWalk.i64_in _ (by omega)).trans HO4.out
    have hw4 : IntKind.u8.wrap (s : Int) = (s : Int) := by rw [IntKind.wrap_u8']; omega
    have hbs := HBS.out
    have hbs3 := HB3.out
    have hn1 : ¬ (9223372036854775807 < (sa.size : Int) + (sb.size : Int)) := by omega
    have hn2 : ¬ (9223372036854775807 < sa.size + sb.size) := by omega
    have hn3 : ¬ (9223372036854775807 < sa.size + sb.size + sc.size) := by omega
    have hn4 : ¬ (9223372036854775807 < sa.size + sb.size + sc.size + d.size) := by omega
    have hn5 : ¬ (9223372036854775807 < (sa.size : Int) + (sb.size : Int) + (sc.size : Int)) := by omega
    have hn6 : ¬ (9223372036854775807 < (sa.size : Int) + (sb.size : Int) + (sc.size : Int) + (d.size : Int)) := by omega
    have hS1 : RestP w w1 := ⟨HL1.out, hs1⟩
    have hconj := And.intro c1 (And.intro c4 (And.intro c5 hS1))
    refine wp_region_noPanic ?_
    refine wp_region_held_drew (S := (fun w' => w'.cell? ⟨w.heap.size, 1, none⟩ = some (.int .i64 ch) ∧ w'.cell? ⟨w.heap.size, 4, none⟩ = some (.int .i64 s) ∧ w'.cell? ⟨w.heap.size, 5, none⟩ = some (.string d) ∧ RestP w w')) (by kernel_rfl) ?_ (fun hHeld => ?_)
    · (try dsimp only); (first | assumption | (refine held_drew ?_; assumption) | (refine held_alloc _ ?_; assumption) | (refine held_drew (held_alloc _ ?_); assumption) | (refine held_below ?_ (by assumption); assumption))
    refine wpAnyH_take (i := 0) (v := ?_) rfl (by kernel_rfl) (by kernel_rfl) (by kernel_rfl) (fun _ _ _ h => h) (Or.inl ⟨by rfl, ?_⟩) (by assumption) ?_
    rotate_left
    · (intro w hSw; (try dsimp only at hSw); go_simp; (try with_reducible rfl))
    try simp only [Act.put, List.setIfInBounds_toArray, List.set_cons_zero, List.set_cons_succ]
    refine wpAnyH_take (i := 2) (v := ?_) rfl (by kernel_rfl) (by kernel_rfl) (by kernel_rfl) (fun _ _ _ h => h) (Or.inl ⟨by rfl, ?_⟩) (by assumption) ?_
    rotate_left
    · (intro w hSw; (try dsimp only at hSw); go_simp; (try with_reducible rfl))
    try simp only [Act.put, List.setIfInBounds_toArray, List.set_cons_zero, List.set_cons_succ]
    refine wpAnyH_take (i := 3) (v := ?_) rfl (by kernel_rfl) (by kernel_rfl) (by kernel_rfl) (fun _ _ _ h => h) (Or.inl ⟨by rfl, ?_⟩) (by assumption) ?_
    rotate_left
    · (intro w hSw; (try dsimp only at hSw); go_simp; (try with_reducible rfl))
    try simp only [Act.put, List.setIfInBounds_toArray, List.set_cons_zero, List.set_cons_succ]
    refine wpAnyH_take (i := 4) (v := ?_) rfl (by kernel_rfl) (by kernel_rfl) (by kernel_rfl) (fun _ _ _ h => h) (Or.inl ⟨by rfl, ?_⟩) (by assumption) ?_
    rotate_left
    · (intro w hSw; (try dsimp only at hSw); go_simp; (try with_reducible rfl))
    try simp only [Act.put, List.setIfInBounds_toArray, List.set_cons_zero, List.set_cons_succ]
    refine wpAnyH_take (i := 5) (v := ?_) rfl (by kernel_rfl) (by kernel_rfl) (by kernel_rfl) (fun _ _ _ h => h) (Or.inl ⟨by rfl, ?_⟩) (by assumption) ?_
    rotate_left
    · (intro w hSw; (try dsimp only at hSw); go_simp; (try with_reducible rfl))
    try simp only [Act.put, List.setIfInBounds_toArray, List.set_cons_zero, List.set_cons_succ]
    refine wpAnyH_take (i := 6) (v := ?_) rfl (by kernel_rfl) (by kernel_rfl) (by kernel_rfl) (fun _ _ _ h => h) (Or.inl ⟨by rfl, ?_⟩) (by assumption) ?_
    rotate_left
    · (intro w hSw; (try dsimp only at hSw); go_simp; (try with_reducible rfl))
    try simp only [Act.put, List.setIfInBounds_toArray, List.set_cons_zero, List.set_cons_succ]
    refine wpAnyH_take (i := 7) (v := ?_) rfl (by kernel_rfl) (by kernel_rfl) (by kernel_rfl) (fun _ _ _ h => h) (Or.inl ⟨by rfl, ?_⟩) (by assumption) ?_
    rotate_left
    · (intro w hSw; (try dsimp only at hSw); go_simp; (try with_reducible rfl))
    try simp only [Act.put, List.setIfInBounds_toArray, List.set_cons_zero, List.set_cons_succ]
    refine wpAnyH_take (i := 8) (v := ?_) rfl (by kernel_rfl) (by kernel_rfl) (by kernel_rfl) (fun _ _ _ h => h) (Or.inl ⟨by rfl, ?_⟩) (by assumption) ?_
    rotate_left
    · (intro w hSw; (try dsimp only at hSw); go_simp; (try with_reducible rfl))
    try simp only [Act.put, List.setIfInBounds_toArray, List.set_cons_zero, List.set_cons_succ]
    refine wpAnyH_take (i := 9) (v := ?_) rfl (by kernel_rfl) (by kernel_rfl) (by kernel_rfl) (fun _ _ _ h => h) (Or.inl ⟨by rfl, ?_⟩) (by assumption) ?_
    rotate_left
    · (intro w hSw; (try dsimp only at hSw); go_simp; (try with_reducible rfl))
    try simp only [Act.put, List.setIfInBounds_toArray, List.set_cons_zero, List.set_cons_succ]
    refine wpAnyH_take (i := 12) (v := ?_) rfl (by kernel_rfl) (by kernel_rfl) (by kernel_rfl) (fun _ _ _ h => h) (Or.inl ⟨by rfl, ?_⟩) (by assumption) ?_
    rotate_left
    · (intro w hSw; (try dsimp only at hSw); go_simp; (try with_reducible rfl))
    try simp only [Act.put, List.setIfInBounds_toArray, List.set_cons_zero, List.set_cons_succ]
    refine wpAnyH_take (i := 13) (v := ?_) rfl (by kernel_rfl) (by kernel_rfl) (by kernel_rfl) (fun _ _ _ h => h) (Or.inl ⟨by rfl, ?_⟩) (by assumption) ?_
    rotate_left
    · (intro w hSw; (try dsimp only at hSw); go_simp; (try with_reducible rfl))
    try simp only [Act.put, List.setIfInBounds_toArray, List.set_cons_zero, List.set_cons_succ]
    refine wpAnyH_take (i := 14) (v := ?_) rfl (by kernel_rfl) (by kernel_rfl) (by kernel_rfl) (fun _ _ _ h => h) (Or.inl ⟨by rfl, ?_⟩) (by assumption) ?_
    rotate_left
    · (intro w hSw; (try dsimp only at hSw); go_simp; (try with_reducible rfl))
    try simp only [Act.put, List.setIfInBounds_toArray, List.set_cons_zero, List.set_cons_succ]
    refine wpAnyH_take (i := 18) (v := ?_) rfl (by kernel_rfl) (by kernel_rfl) (by kernel_rfl) (fun _ _ _ h => h) (Or.inl ⟨by rfl, ?_⟩) (by assumption) ?_
    rotate_left
    · (intro w hSw; (try dsimp only at hSw); go_simp; (try with_reducible rfl))
    try simp only [Act.put, List.setIfInBounds_toArray, List.set_cons_zero, List.set_cons_succ]
    refine wpAnyH_take (i := 19) (v := ?_) rfl (by kernel_rfl) (by kernel_rfl) (by kernel_rfl) (fun _ _ _ h => h) (Or.inl ⟨by rfl, ?_⟩) (by assumption) ?_
    rotate_left
    · (intro w hSw; (try dsimp only at hSw); go_simp; (try with_reducible rfl))
    try simp only [Act.put, List.setIfInBounds_toArray, List.set_cons_zero, List.set_cons_succ]
    refine wpAnyH_ready (rs := [1, 15]) (by kernel_rfl) (by simp) ?_
    refine AllReadyH.cons rfl (fun K hK => ?_) ?_
    · (go_simp; refine (HA1.out _).mono ?_; rintro e w' ⟨rfl, hL⟩; (try (have hg := HBD.out _ _ hL; have hcv := HBC.out _ _ hg)); (try (have hg := HBF.out _ _ hL; have hcv := HBC.out _ _ hg)); (try (have hg2 := Blk.below hg0 hL (Blk.lt hg0); have hcv := HBC.out _ _ hg2)); (try (have hg0 := hg)); go_wp2_with fail)
      refine hK.out _ _ ?_ (fun hHeld => ?_)
      · (try dsimp only); (first | assumption | (refine held_drew ?_; assumption) | (refine held_alloc _ ?_; assumption) | (refine held_drew (held_alloc _ ?_); assumption) | (refine held_below ?_ (by assumption); assumption))
      clear hK K
      try simp only [Act.put, List.setIfInBounds_toArray, List.set_cons_zero, List.set_cons_succ]
      refine wpAnyH_ready (rs := [10, 15]) (by kernel_rfl) (by simp) ?_
      refine AllReadyH.cons rfl (fun K hK => ?_) ?_
      · (go_simp; refine (HA2.out _).mono ?_; rintro e w' ⟨rfl, hL⟩; (try (have hg := HBD.out _ _ hL; have hcv := HBC.out _ _ hg)); (try (have hg := HBF.out _ _ hL; have hcv := HBC.out _ _ hg)); (try (have hg2 := Blk.below hg0 hL (Blk.lt hg0); have hcv := HBC.out _ _ hg2)); (try (have hg0 := hg)); go_wp2_with fail)
        refine hK.out _ _ ?_ (fun hHeld => ?_)
        · (try dsimp only); (first | assumption | (refine held_drew ?_; assumption) | (refine held_alloc _ ?_; assumption) | (refine held_drew (held_alloc _ ?_); assumption) | (refine held_below ?_ (by assumption); assumption))
        clear hK K
        try simp only [Act.put, List.setIfInBounds_toArray, List.set_cons_zero, List.set_cons_succ]
        refine wpAnyH_take (i := 11) (v := ?_) rfl (by kernel_rfl) (by kernel_rfl) (by kernel_rfl) (fun _ _ _ h => h) (Or.inl ⟨by rfl, ?_⟩) (by assumption) ?_
        rotate_left
        · (intro w hSw; (try dsimp only at hSw); go_simp; (try with_reducible rfl))
        try simp only [Act.put, List.setIfInBounds_toArray, List.set_cons_zero, List.set_cons_succ]
        refine wpAnyH_ready (rs := [15]) (by kernel_rfl) (by simp) ?_
        refine AllReadyH.cons rfl (fun K hK => ?_) ?_
        · go_simp
          refine hK.out _ _ ?_ (fun hHeld => ?_)
          · (try dsimp only); (first | assumption | (refine held_drew ?_; assumption) | (refine held_alloc _ ?_; assumption) | (refine held_drew (held_alloc _ ?_); assumption) | (refine held_below ?_ (by assumption); assumption))
          clear hK K
          try simp only [Act.put, List.setIfInBounds_toArray, List.set_cons_zero, List.set_cons_succ]
          refine wpAnyH_ready (rs := [16]) (by kernel_rfl) (by simp) ?_
          refine AllReadyH.cons rfl (fun K hK => ?_) ?_
          · go_simp
            refine hK.out _ _ ?_ (fun hHeld => ?_)
            · (try dsimp only); (first | assumption | (refine held_drew ?_; assumption) | (refine held_alloc _ ?_; assumption) | (refine held_drew (held_alloc _ ?_); assumption) | (refine held_below ?_ (by assumption); assumption))
            clear hK K
            try simp only [Act.put, List.setIfInBounds_toArray, List.set_cons_zero, List.set_cons_succ]
            refine wpAnyH_take (i := 17) (v := ?_) rfl (by kernel_rfl) (by kernel_rfl) (by kernel_rfl) (fun _ _ _ h => h) (Or.inl ⟨by rfl, ?_⟩) (by assumption) ?_
            rotate_left
            · (intro w hSw; (try dsimp only at hSw); go_simp; (try with_reducible rfl))
            try simp only [Act.put, List.setIfInBounds_toArray, List.set_cons_zero, List.set_cons_succ]
            refine wpAnyH_take (i := 20) (v := ?_) rfl (by kernel_rfl) (by kernel_rfl) (by kernel_rfl) (fun _ _ _ h => h) (Or.inl ⟨by rfl, ?_⟩) (by assumption) ?_
            rotate_left
            · (intro w hSw; (try dsimp only at hSw); go_simp; (try with_reducible rfl))
            try simp only [Act.put, List.setIfInBounds_toArray, List.set_cons_zero, List.set_cons_succ]
            refine wpAnyH_take (i := 21) (v := ?_) rfl (by kernel_rfl) (by kernel_rfl) (by kernel_rfl) (fun _ _ _ h => h) (Or.inl ⟨by rfl, ?_⟩) (by assumption) ?_
            rotate_left
            · (intro w hSw; (try dsimp only at hSw); go_simp; (try with_reducible rfl))
            try simp only [Act.put, List.setIfInBounds_toArray, List.set_cons_zero, List.set_cons_succ]
            refine wpAnyH_done (by kernel_rfl) ?_ _
            refine NoPanic.normal ?_
            refine gen_post (fun w' => RestP w w') ?_ ?_
            · exact rest_of (by assumption)
            rintro w3 hR
            have HL3 := Lib.hid hR.1; clear hR
            generalize sa ++ sb ++ sc ++ d = tot at *
            go_wp2_with fail
            refine (HS.out _).mono ?_
            rintro e w' ⟨rfl, rfl⟩
            go_wp2_with fail
            refine (HA3.out _).mono ?_
            rintro e w4 ⟨rfl, hL4⟩
            have HL4 := Lib.hid (HL3.out.trans (hL4.mono HL3.out.size)); clear hL4
            go_wp2_with fail
            go_ret2
            exact ⟨by (rw [HF.out]) <;> rfl, HL4.out⟩
          exact AllReadyH.nil
        exact AllReadyH.nil
      refine AllReadyH.cons rfl (fun K hK => ?_) ?_
      · go_simp
        refine hK.out _ _ ?_ (fun hHeld => ?_)
        · (try dsimp only); (first | assumption | (refine held_drew ?_; assumption) | (refine held_alloc _ ?_; assumption) | (refine held_drew (held_alloc _ ?_); assumption) | (refine held_below ?_ (by assumption); assumption))
        clear hK K
        try simp only [Act.put, List.setIfInBounds_toArray, List.set_cons_zero, List.set_cons_succ]
        refine wpAnyH_ready (rs := [10, 16]) (by kernel_rfl) (by simp) ?_
        refine AllReadyH.cons rfl (fun K hK => ?_) ?_
        · (go_simp; refine (HA2.out _).mono ?_; rintro e w' ⟨rfl, hL⟩; (try (have hg := HBD.out _ _ hL; have hcv := HBC.out _ _ hg)); (try (have hg := HBF.out _ _ hL; have hcv := HBC.out _ _ hg)); (try (have hg2 := Blk.below hg0 hL (Blk.lt hg0); have hcv := HBC.out _ _ hg2)); (try (have hg0 := hg)); go_wp2_with fail)
          refine hK.out _ _ ?_ (fun hHeld => ?_)
          · (try dsimp only); (first | assumption | (refine held_drew ?_; assumption) | (refine held_alloc _ ?_; assumption) | (refine held_drew (held_alloc _ ?_); assumption) | (refine held_below ?_ (by assumption); assumption))
          clear hK K
          try simp only [Act.put, List.setIfInBounds_toArray, List.set_cons_zero, List.set_cons_succ]
          refine wpAnyH_take (i := 11) (v := ?_) rfl (by kernel_rfl) (by kernel_rfl) (by kernel_rfl) (fun _ _ _ h => h) (Or.inl ⟨by rfl, ?_⟩) (by assumption) ?_
          rotate_left
          · (intro w hSw; (try dsimp only at hSw); go_simp; (try with_reducible rfl))
          try simp only [Act.put, List.setIfInBounds_toArray, List.set_cons_zero, List.set_cons_succ]
          refine wpAnyH_ready (rs := [16]) (by kernel_rfl) (by simp) ?_
          refine AllReadyH.cons rfl (fun K hK => ?_) ?_
          · go_simp
            refine hK.out _ _ ?_ (fun hHeld => ?_)
            · (try dsimp only); (first | assumption | (refine held_drew ?_; assumption) | (refine held_alloc _ ?_; assumption) | (refine held_drew (held_alloc _ ?_); assumption) | (refine held_below ?_ (by assumption); assumption))
            clear hK K
            try simp only [Act.put, List.setIfInBounds_toArray, List.set_cons_zero, List.set_cons_succ]
            refine wpAnyH_take (i := 17) (v := ?_) rfl (by kernel_rfl) (by kernel_rfl) (by kernel_rfl) (fun _ _ _ h => h) (Or.inl ⟨by rfl, ?_⟩) (by assumption) ?_
            rotate_left
            · (intro w hSw; (try dsimp only at hSw); go_simp; (try with_reducible rfl))
            try simp only [Act.put, List.setIfInBounds_toArray, List.set_cons_zero, List.set_cons_succ]
            refine wpAnyH_take (i := 20) (v := ?_) rfl (by kernel_rfl) (by kernel_rfl) (by kernel_rfl) (fun _ _ _ h => h) (Or.inl ⟨by rfl, ?_⟩) (by assumption) ?_
            rotate_left
            · (intro w hSw; (try dsimp only at hSw); go_simp; (try with_reducible rfl))
            try simp only [Act.put, List.setIfInBounds_toArray, List.set_cons_zero, List.set_cons_succ]
            refine wpAnyH_take (i := 21) (v := ?_) rfl (by kernel_rfl) (by kernel_rfl) (by kernel_rfl) (fun _ _ _ h => h) (Or.inl ⟨by rfl, ?_⟩) (by assumption) ?_
            rotate_left
            · (intro w hSw; (try dsimp only at hSw); go_simp; (try with_reducible rfl))
            try simp only [Act.put, List.setIfInBounds_toArray, List.set_cons_zero, List.set_cons_succ]
            refine wpAnyH_done (by kernel_rfl) ?_ _
            refine NoPanic.normal ?_
            refine gen_post (fun w' => RestP w w') ?_ ?_
            · exact rest_of (by assumption)
            rintro w3 hR
            have HL3 := Lib.hid hR.1; clear hR
            generalize sa ++ sb ++ sc ++ d = tot at *
            go_wp2_with fail
            refine (HS.out _).mono ?_
            rintro e w' ⟨rfl, rfl⟩
            go_wp2_with fail
            refine (HA3.out _).mono ?_
            rintro e w4 ⟨rfl, hL4⟩
            have HL4 := Lib.hid (HL3.out.trans (hL4.mono HL3.out.size)); clear hL4
            go_wp2_with fail
            go_ret2
            exact ⟨by (rw [HF.out]) <;> rfl, HL4.out⟩
          exact AllReadyH.nil
        refine AllReadyH.cons rfl (fun K hK => ?_) ?_
        · go_simp
          refine hK.out _ _ ?_ (fun hHeld => ?_)
          · (try dsimp only); (first | assumption | (refine held_drew ?_; assumption) | (refine held_alloc _ ?_; assumption) | (refine held_drew (held_alloc _ ?_); assumption) | (refine held_below ?_ (by assumption); assumption))
          clear hK K
          try simp only [Act.put, List.setIfInBounds_toArray, List.set_cons_zero, List.set_cons_succ]
          refine wpAnyH_ready (rs := [10]) (by kernel_rfl) (by simp) ?_
          refine AllReadyH.cons rfl (fun K hK => ?_) ?_
          · (go_simp; refine (HA2.out _).mono ?_; rintro e w' ⟨rfl, hL⟩; (try (have hg := HBD.out _ _ hL; have hcv := HBC.out _ _ hg)); (try (have hg := HBF.out _ _ hL; have hcv := HBC.out _ _ hg)); (try (have hg2 := Blk.below hg0 hL (Blk.lt hg0); have hcv := HBC.out _ _ hg2)); (try (have hg0 := hg)); go_wp2_with fail)
            refine hK.out _ _ ?_ (fun hHeld => ?_)
            · (try dsimp only); (first | assumption | (refine held_drew ?_; assumption) | (refine held_alloc _ ?_; assumption) | (refine held_drew (held_alloc _ ?_); assumption) | (refine held_below ?_ (by assumption); assumption))
            clear hK K
            try simp only [Act.put, List.setIfInBounds_toArray, List.set_cons_zero, List.set_cons_succ]
            refine wpAnyH_take (i := 11) (v := ?_) rfl (by kernel_rfl) (by kernel_rfl) (by kernel_rfl) (fun _ _ _ h => h) (Or.inl ⟨by rfl, ?_⟩) (by assumption) ?_
            rotate_left
            · (intro w hSw; (try dsimp only at hSw); go_simp; (try with_reducible rfl))
            try simp only [Act.put, List.setIfInBounds_toArray, List.set_cons_zero, List.set_cons_succ]
            refine wpAnyH_take (i := 17) (v := ?_) rfl (by kernel_rfl) (by kernel_rfl) (by kernel_rfl) (fun _ _ _ h => h) (Or.inl ⟨by rfl, ?_⟩) (by assumption) ?_
            rotate_left
            · (intro w hSw; (try dsimp only at hSw); go_simp; (try with_reducible rfl))
            try simp only [Act.put, List.setIfInBounds_toArray, List.set_cons_zero, List.set_cons_succ]
            refine wpAnyH_take (i := 20) (v := ?_) rfl (by kernel_rfl) (by kernel_rfl) (by kernel_rfl) (fun _ _ _ h => h) (Or.inl ⟨by rfl, ?_⟩) (by assumption) ?_
            rotate_left
            · (intro w hSw; (try dsimp only at hSw); go_simp; (try with_reducible rfl))
            try simp only [Act.put, List.setIfInBounds_toArray, List.set_cons_zero, List.set_cons_succ]
            refine wpAnyH_take (i := 21) (v := ?_) rfl (by kernel_rfl) (by kernel_rfl) (by kernel_rfl) (fun _ _ _ h => h) (Or.inl ⟨by rfl, ?_⟩) (by assumption) ?_
            rotate_left
            · (intro w hSw; (try dsimp only at hSw); go_simp; (try with_reducible rfl))
            try simp only [Act.put, List.setIfInBounds_toArray, List.set_cons_zero, List.set_cons_succ]
            refine wpAnyH_done (by kernel_rfl) ?_ _
            refine NoPanic.normal ?_
            refine gen_post (fun w' => RestP w w') ?_ ?_
            · exact rest_of (by assumption)
            rintro w3 hR
            have HL3 := Lib.hid hR.1; clear hR
            generalize sa ++ sb ++ sc ++ d = tot at *
            go_wp2_with fail
            refine (HS.out _).mono ?_
            rintro e w' ⟨rfl, rfl⟩
            go_wp2_with fail
            refine (HA3.out _).mono ?_
            rintro e w4 ⟨rfl, hL4⟩
            have HL4 := Lib.hid (HL3.out.trans (hL4.mono HL3.out.size)); clear hL4
            go_wp2_with fail
            go_ret2
            exact ⟨by (rw [HF.out]) <;> rfl, HL4.out⟩
          exact AllReadyH.nil
        exact AllReadyH.nil
      exact AllReadyH.nil
    refine AllReadyH.cons rfl (fun K hK => ?_) ?_
    · go_simp
      refine hK.out _ _ ?_ (fun hHeld => ?_)
      · (try dsimp only); (first | assumption | (refine held_drew ?_; assumption) | (refine held_alloc _ ?_; assumption) | (refine held_drew (held_alloc _ ?_); assumption) | (refine held_below ?_ (by assumption); assumption))
      clear hK K
      try simp only [Act.put, List.setIfInBounds_toArray, List.set_cons_zero, List.set_cons_succ]
      refine wpAnyH_ready (rs := [1, 16]) (by kernel_rfl) (by simp) ?_
      refine AllReadyH.cons rfl (fun K hK => ?_) ?_
      · (go_simp; refine (HA1.out _).mono ?_; rintro e w' ⟨rfl, hL⟩; (try (have hg := HBD.out _ _ hL; have hcv := HBC.out _ _ hg)); (try (have hg := HBF.out _ _ hL; have hcv := HBC.out _ _ hg)); (try (have hg2 := Blk.below hg0 hL (Blk.lt hg0); have hcv := HBC.out _ _ hg2)); (try (have hg0 := hg)); go_wp2_with fail)
        refine hK.out _ _ ?_ (fun hHeld => ?_)
        · (try dsimp only); (first | assumption | (refine held_drew ?_; assumption) | (refine held_alloc _ ?_; assumption) | (refine held_drew (held_alloc _ ?_); assumption) | (refine held_below ?_ (by assumption); assumption))
        clear hK K
        try simp only [Act.put, List.setIfInBounds_toArray, List.set_cons_zero, List.set_cons_succ]
        refine wpAnyH_ready (rs := [10, 16]) (by kernel_rfl) (by simp) ?_
        refine AllReadyH.cons rfl (fun K hK => ?_) ?_
        · (go_simp; refine (HA2.out _).mono ?_; rintro e w' ⟨rfl, hL⟩; (try (have hg := HBD.out _ _ hL; have hcv := HBC.out _ _ hg)); (try (have hg := HBF.out _ _ hL; have hcv := HBC.out _ _ hg)); (try (have hg2 := Blk.below hg0 hL (Blk.lt hg0); have hcv := HBC.out _ _ hg2)); (try (have hg0 := hg)); go_wp2_with fail)
          refine hK.out _ _ ?_ (fun hHeld => ?_)
          · (try dsimp only); (first | assumption | (refine held_drew ?_; assumption) | (refine held_alloc _ ?_; assumption) | (refine held_drew (held_alloc _ ?_); assumption) | (refine held_below ?_ (by assumption); assumption))
          clear hK K
          try simp only [Act.put, List.setIfInBounds_toArray, List.set_cons_zero, List.set_cons_succ]
          refine wpAnyH_take (i := 11) (v := ?_) rfl (by kernel_rfl) (by kernel_rfl) (by kernel_rfl) (fun _ _ _ h => h) (Or.inl ⟨by rfl, ?_⟩) (by assumption) ?_
          rotate_left
          · (intro w hSw; (try dsimp only at hSw); go_simp; (try with_reducible rfl))
          try simp only [Act.put, List.setIfInBounds_toArray, List.set_cons_zero, List.set_cons_succ]
          refine wpAnyH_ready (rs := [16]) (by kernel_rfl) (by simp) ?_
          refine AllReadyH.cons rfl (fun K hK => ?_) ?_
          · go_simp
            refine hK.out _ _ ?_ (fun hHeld => ?_)
            · (try dsimp only); (first | assumption | (refine held_drew ?_; assumption) | (refine held_alloc _ ?_; assumption) | (refine held_drew (held_alloc _ ?_); assumption) | (refine held_below ?_ (by assumption); assumption))
            clear hK K
            try simp only [Act.put, List.setIfInBounds_toArray, List.set_cons_zero, List.set_cons_succ]
            refine wpAnyH_take (i := 17) (v := ?_) rfl (by kernel_rfl) (by kernel_rfl) (by kernel_rfl) (fun _ _ _ h => h) (Or.inl ⟨by rfl, ?_⟩) (by assumption) ?_
            rotate_left
            · (intro w hSw; (try dsimp only at hSw); go_simp; (try with_reducible rfl))
            try simp only [Act.put, List.setIfInBounds_toArray, List.set_cons_zero, List.set_cons_succ]
            refine wpAnyH_take (i := 20) (v := ?_) rfl (by kernel_rfl) (by kernel_rfl) (by kernel_rfl) (fun _ _ _ h => h) (Or.inl ⟨by rfl, ?_⟩) (by assumption) ?_
            rotate_left
            · (intro w hSw; (try dsimp only at hSw); go_simp; (try with_reducible rfl))
            try simp only [Act.put, List.setIfInBounds_toArray, List.set_cons_zero, List.set_cons_succ]
            refine wpAnyH_take (i := 21) (v := ?_) rfl (by kernel_rfl) (by kernel_rfl) (by kernel_rfl) (fun _ _ _ h => h) (Or.inl ⟨by rfl, ?_⟩) (by assumption) ?_
            rotate_left
            · (intro w hSw; (try dsimp only at hSw); go_simp; (try with_reducible rfl))
            try simp only [Act.put, List.setIfInBounds_toArray, List.set_cons_zero, List.set_cons_succ]
            refine wpAnyH_done (by kernel_rfl) ?_ _
            refine NoPanic.normal ?_
            refine gen_post (fun w' => RestP w w') ?_ ?_
            · exact rest_of (by assumption)
            rintro w3 hR
            have HL3 := Lib.hid hR.1; clear hR
            generalize sa ++ sb ++ sc ++ d = tot at *
            go_wp2_with fail
            refine (HS.out _).mono ?_
            rintro e w' ⟨rfl, rfl⟩
            go_wp2_with fail
            refine (HA3.out _).mono ?_
            rintro e w4 ⟨rfl, hL4⟩
            have HL4 := Lib.hid (HL3.out.trans (hL4.mono HL3.out.size)); clear hL4
            go_wp2_with fail
            go_ret2
            exact ⟨by (rw [HF.out]) <;> rfl, HL4.out⟩
          exact AllReadyH.nil
        refine AllReadyH.cons rfl (fun K hK => ?_) ?_
        · go_simp
          refine hK.out _ _ ?_ (fun hHeld => ?_)
          · (try dsimp only); (first | assumption | (refine held_drew ?_; assumption) | (refine held_alloc _ ?_; assumption) | (refine held_drew (held_alloc _ ?_); assumption) | (refine held_below ?_ (by assumption); assumption))
          clear hK K
          try simp only [Act.put, List.setIfInBounds_toArray, List.set_cons_zero, List.set_cons_succ]
          refine wpAnyH_ready (rs := [10]) (by kernel_rfl) (by simp) ?_
          refine AllReadyH.cons rfl (fun K hK => ?_) ?_
          · (go_simp; refine (HA2.out _).mono ?_; rintro e w' ⟨rfl, hL⟩; (try (have hg := HBD.out _ _ hL; have hcv := HBC.out _ _ hg)); (try (have hg := HBF.out _ _ hL; have hcv := HBC.out _ _ hg)); (try (have hg2 := Blk.below hg0 hL (Blk.lt hg0); have hcv := HBC.out _ _ hg2)); (try (have hg0 := hg)); go_wp2_with fail)
            refine hK.out _ _ ?_ (fun hHeld => ?_)
            · (try dsimp only); (first | assumption | (refine held_drew ?_; assumption) | (refine held_alloc _ ?_; assumption) | (refine held_drew (held_alloc _ ?_); assumption) | (refine held_below ?_ (by assumption); assumption))
            clear hK K
            try simp only [Act.put, List.setIfInBounds_toArray, List.set_cons_zero, List.set_cons_succ]
            refine wpAnyH_take (i := 11) (v := ?_) rfl (by kernel_rfl) (by kernel_rfl) (by kernel_rfl) (fun _ _ _ h => h) (Or.inl ⟨by rfl, ?_⟩) (by assumption) ?_
            rotate_left
            · (intro w hSw; (try dsimp only at hSw); go_simp; (try with_reducible rfl))
            try simp only [Act.put, List.setIfInBounds_toArray, List.set_cons_zero, List.set_cons_succ]
            refine wpAnyH_take (i := 17) (v := ?_) rfl (by kernel_rfl) (by kernel_rfl) (by kernel_rfl) (fun _ _ _ h => h) (Or.inl ⟨by rfl, ?_⟩) (by assumption) ?_
            rotate_left
            · (intro w hSw; (try dsimp only at hSw); go_simp; (try with_reducible rfl))
            try simp only [Act.put, List.setIfInBounds_toArray, List.set_cons_zero, List.set_cons_succ]
            refine wpAnyH_take (i := 20) (v := ?_) rfl (by kernel_rfl) (by kernel_rfl) (by kernel_rfl) (fun _ _ _ h => h) (Or.inl ⟨by rfl, ?_⟩) (by assumption) ?_
            rotate_left
            · (intro w hSw; (try dsimp only at hSw); go_simp; (try with_reducible rfl))
            try simp only [Act.put, List.setIfInBounds_toArray, List.set_cons_zero, List.set_cons_succ]
            refine wpAnyH_take (i := 21) (v := ?_) rfl (by kernel_rfl) (by kernel_rfl) (by kernel_rfl) (fun _ _ _ h => h) (Or.inl ⟨by rfl, ?_⟩) (by assumption) ?_
            rotate_left
            · (intro w hSw; (try dsimp only at hSw); go_simp; (try with_reducible rfl))
            try simp only [Act.put, List.setIfInBounds_toArray, List.set_cons_zero, List.set_cons_succ]
            refine wpAnyH_done (by kernel_rfl) ?_ _
            refine NoPanic.normal ?_
            refine gen_post (fun w' => RestP w w') ?_ ?_
            · exact rest_of (by assumption)
            rintro w3 hR
            have HL3 := Lib.hid hR.1; clear hR
            generalize sa ++ sb ++ sc ++ d = tot at *
            go_wp2_with fail
            refine (HS.out _).mono ?_
            rintro e w' ⟨rfl, rfl⟩
            go_wp2_with fail
            refine (HA3.out _).mono ?_
            rintro e w4 ⟨rfl, hL4⟩
            have HL4 := Lib.hid (HL3.out.trans (hL4.mono HL3.out.size)); clear hL4
            go_wp2_with fail
            go_ret2
            exact ⟨by (rw [HF.out]) <;> rfl, HL4.out⟩
          exact AllReadyH.nil
        exact AllReadyH.nil
      refine AllReadyH.cons rfl (fun K hK => ?_) ?_
      · go_simp
        refine hK.out _ _ ?_ (fun hHeld => ?_)
        · (try dsimp only); (first | assumption | (refine held_drew ?_; assumption) | (refine held_alloc _ ?_; assumption) | (refine held_drew (held_alloc _ ?_); assumption) | (refine held_below ?_ (by assumption); assumption))
        clear hK K
        try simp only [Act.put, List.setIfInBounds_toArray, List.set_cons_zero, List.set_cons_succ]
        refine wpAnyH_ready (rs := [1]) (by kernel_rfl) (by simp) ?_
        refine AllReadyH.cons rfl (fun K hK => ?_) ?_
        · (go_simp; refine (HA1.out _).mono ?_; rintro e w' ⟨rfl, hL⟩; (try (have hg := HBD.out _ _ hL; have hcv := HBC.out _ _ hg)); (try (have hg := HBF.out _ _ hL; have hcv := HBC.out _ _ hg)); (try (have hg2 := Blk.below hg0 hL (Blk.lt hg0); have hcv := HBC.out _ _ hg2)); (try (have hg0 := hg)); go_wp2_with fail)
          refine hK.out _ _ ?_ (fun hHeld => ?_)
          · (try dsimp only); (first | assumption | (refine held_drew ?_; assumption) | (refine held_alloc _ ?_; assumption) | (refine held_drew (held_alloc _ ?_); assumption) | (refine held_below ?_ (by assumption); assumption))
          clear hK K
          try simp only [Act.put, List.setIfInBounds_toArray, List.set_cons_zero, List.set_cons_succ]
          refine wpAnyH_ready (rs := [10]) (by kernel_rfl) (by simp) ?_
          refine AllReadyH.cons rfl (fun K hK => ?_) ?_
          · (go_simp; refine (HA2.out _).mono ?_; rintro e w' ⟨rfl, hL⟩; (try (have hg := HBD.out _ _ hL; have hcv := HBC.out _ _ hg)); (try (have hg := HBF.out _ _ hL; have hcv := HBC.out _ _ hg)); (try (have hg2 := Blk.below hg0 hL (Blk.lt hg0); have hcv := HBC.out _ _ hg2)); (try (have hg0 := hg)); go_wp2_with fail)
            refine hK.out _ _ ?_ (fun hHeld => ?_)
            · (try dsimp only); (first | assumption | (refine held_drew ?_; assumption) | (refine held_alloc _ ?_; assumption) | (refine held_drew (held_alloc _ ?_); assumption) | (refine held_below ?_ (by assumption); assumption))
            clear hK K
            try simp only [Act.put, List.setIfInBounds_toArray, List.set_cons_zero, List.set_cons_succ]
            refine wpAnyH_take (i := 11) (v := ?_) rfl (by kernel_rfl) (by kernel_rfl) (by kernel_rfl) (fun _ _ _ h => h) (Or.inl ⟨by rfl, ?_⟩) (by assumption) ?_
            rotate_left
            · (intro w hSw; (try dsimp only at hSw); go_simp; (try with_reducible rfl))
            try simp only [Act.put, List.setIfInBounds_toArray, List.set_cons_zero, List.set_cons_succ]
            refine wpAnyH_take (i := 17) (v := ?_) rfl (by kernel_rfl) (by kernel_rfl) (by kernel_rfl) (fun _ _ _ h => h) (Or.inl ⟨by rfl, ?_⟩) (by assumption) ?_
            rotate_left
            · (intro w hSw; (try dsimp only at hSw); go_simp; (try with_reducible rfl))
            try simp only [Act.put, List.setIfInBounds_toArray, List.set_cons_zero, List.set_cons_succ]
            refine wpAnyH_take (i := 20) (v := ?_) rfl (by kernel_rfl) (by kernel_rfl) (by kernel_rfl) (fun _ _ _ h => h) (Or.inl ⟨by rfl, ?_⟩) (by assumption) ?_
            rotate_left
            · (intro w hSw; (try dsimp only at hSw); go_simp; (try with_reducible rfl))
            try simp only [Act.put, List.setIfInBounds_toArray, List.set_cons_zero, List.set_cons_succ]
            refine wpAnyH_take (i := 21) (v := ?_) rfl (by kernel_rfl) (by kernel_rfl) (by kernel_rfl) (fun _ _ _ h => h) (Or.inl ⟨by rfl, ?_⟩) (by assumption) ?_
            rotate_left
            · (intro w hSw; (try dsimp only at hSw); go_simp; (try with_reducible rfl))
            try simp only [Act.put, List.setIfInBounds_toArray, List.set_cons_zero, List.set_cons_succ]
            refine wpAnyH_done (by kernel_rfl) ?_ _
            refine NoPanic.normal ?_
            refine gen_post (fun w' => RestP w w') ?_ ?_
            · exact rest_of (by assumption)
            rintro w3 hR
            have HL3 := Lib.hid hR.1; clear hR
            generalize sa ++ sb ++ sc ++ d = tot at *
            go_wp2_with fail
            refine (HS.out _).mono ?_
            rintro e w' ⟨rfl, rfl⟩
            go_wp2_with fail
            refine (HA3.out _).mono ?_
            rintro e w4 ⟨rfl, hL4⟩
            have HL4 := Lib.hid (HL3.out.trans (hL4.mono HL3.out.size)); clear hL4
            go_wp2_with fail
            go_ret2
            exact ⟨by (rw [HF.out]) <;> rfl, HL4.out⟩
          exact AllReadyH.nil
        exact AllReadyH.nil
      exact AllReadyH.nil
    exact AllReadyH.nil
  · simp at hbk
  · have hd2 : hd = c + 8192 := by simpa using hhd
    clear hhd
    have HD2 := Lib.hid hd2; clear hd2
    go_enter Try.func30, Try.ntmps30
    go_wp2_with fail
    refine (HV.out _).mono ?_
    rintro e w1 ⟨rfl, hL1⟩
    have HL1 := Lib.hid (HL0.out.trans (hL1.mono HL0.out.size))
    have hs1 : w.heap.size + 1 ≤ w1.heap.size := by have := hL1.size; simp at this; omega
    have HB1 := Lib.hid (HB.out.below hL1 (by simp)); clear hL1
    have c0 := HB1.out.cell 0
    have c1 := HB1.out.cell 1
    have c2 := HB1.out.cell 2
    have c3 := HB1.out.cell 3
    have c4 := HB1.out.cell 4
    have c5 := HB1.out.cell 5
    simp only [Tc.cells, List.getElem?_cons_zero, List.getElem?_cons_succ] at c0 c1 c2 c3 c4 c5
    go_wp2_with fail
    rw [show (c : Int) + 8192 = (hd : Int) by have := HD2.out; omega]
    clear c0 c2 c3
    have hw1 : IntKind.i64.wrap ((ch : Int) * 1024) = (ch : Int) * 1024 := IntWalk.i64_in _ (by omega)
    have hw2 : IntKind.i64.wrap ((ch : Int) * 1024 + (d.size : Int)) = (ch : Int) * 1024 + (d.size : Int) := IntWalk.i64_in _ (by omega)
    have hw3 : IntKind.i64.wrap ((ch : Int) * 1024 + (d.size : Int) + 6) = (sz : Int) := (IntWalk.i64_in _ (by omega)).trans HO4.out
    have hw4 : IntKind.u8.wrap (s : Int) = (s : Int) := by rw [IntKind.wrap_u8']; omega
    have hbs := HBS.out
    have hbs3 := HB3.out
    have hn1 : ¬ (9223372036854775807 < (sa.size : Int) + (sb.size : Int)) := by omega
    have hn2 : ¬ (9223372036854775807 < sa.size + sb.size) := by omega
    have hn3 : ¬ (9223372036854775807 < sa.size + sb.size + sc.size) := by omega
    have hn4 : ¬ (9223372036854775807 < sa.size + sb.size + sc.size + d.size) := by omega
    have hn5 : ¬ (9223372036854775807 < (sa.size : Int) + (sb.size : Int) + (sc.size : Int)) := by omega
    have hn6 : ¬ (9223372036854775807 < (sa.size : Int) + (sb.size : Int) + (sc.size : Int) + (d.size : Int)) := by omega
    have hS1 : RestP w w1 := ⟨HL1.out, hs1⟩
    have hconj := And.intro c1 (And.intro c4 (And.intro c5 hS1))
    refine wp_region_noPanic ?_
    refine wp_region_held_drew (S := (fun w' => w'.cell? ⟨w.heap.size, 1, none⟩ = some (.int .i64 ch) ∧ w'.cell? ⟨w.heap.size, 4, none⟩ = some (.int .i64 s) ∧ w'.cell? ⟨w.heap.size, 5, none⟩ = some (.string d) ∧ RestP w w')) (by kernel_rfl) ?_ (fun hHeld => ?_)
    · (try dsimp only); (first | assumption | (refine held_drew ?_; assumption) | (refine held_alloc _ ?_; assumption) | (refine held_drew (held_alloc _ ?_); assumption) | (refine held_below ?_ (by assumption); assumption))
    refine wpAnyH_take (i := 0) (v := ?_) rfl (by kernel_rfl) (by kernel_rfl) (by kernel_rfl) (fun _ _ _ h => h) (Or.inl ⟨by rfl, ?_⟩) (by assumption) ?_
    rotate_left
    · (intro w hSw; (try dsimp only at hSw); go_simp; (try with_reducible rfl))
    try simp only [Act.put, List.setIfInBounds_toArray, List.set_cons_zero, List.set_cons_succ]
    refine wpAnyH_take (i := 2) (v := ?_) rfl (by kernel_rfl) (by kernel_rfl) (by kernel_rfl) (fun _ _ _ h => h) (Or.inl ⟨by rfl, ?_⟩) (by assumption) ?_
    rotate_left
    · (intro w hSw; (try dsimp only at hSw); go_simp; (try with_reducible rfl))
    try simp only [Act.put, List.setIfInBounds_toArray, List.set_cons_zero, List.set_cons_succ]
    refine wpAnyH_take (i := 3) (v := ?_) rfl (by kernel_rfl) (by kernel_rfl) (by kernel_rfl) (fun _ _ _ h => h) (Or.inl ⟨by rfl, ?_⟩) (by assumption) ?_
    rotate_left
    · (intro w hSw; (try dsimp only at hSw); go_simp; (try with_reducible rfl))
    try simp only [Act.put, List.setIfInBounds_toArray, List.set_cons_zero, List.set_cons_succ]
    refine wpAnyH_take (i := 4) (v := ?_) rfl (by kernel_rfl) (by kernel_rfl) (by kernel_rfl) (fun _ _ _ h => h) (Or.inl ⟨by rfl, ?_⟩) (by assumption) ?_
    rotate_left
    · (intro w hSw; (try dsimp only at hSw); go_simp; (try with_reducible rfl))
    try simp only [Act.put, List.setIfInBounds_toArray, List.set_cons_zero, List.set_cons_succ]
    refine wpAnyH_take (i := 5) (v := ?_) rfl (by kernel_rfl) (by kernel_rfl) (by kernel_rfl) (fun _ _ _ h => h) (Or.inl ⟨by rfl, ?_⟩) (by assumption) ?_
    rotate_left
    · (intro w hSw; (try dsimp only at hSw); go_simp; (try with_reducible rfl))
    try simp only [Act.put, List.setIfInBounds_toArray, List.set_cons_zero, List.set_cons_succ]
    refine wpAnyH_take (i := 6) (v := ?_) rfl (by kernel_rfl) (by kernel_rfl) (by kernel_rfl) (fun _ _ _ h => h) (Or.inl ⟨by rfl, ?_⟩) (by assumption) ?_
    rotate_left
    · (intro w hSw; (try dsimp only at hSw); go_simp; (try with_reducible rfl))
    try simp only [Act.put, List.setIfInBounds_toArray, List.set_cons_zero, List.set_cons_succ]
    refine wpAnyH_take (i := 7) (v := ?_) rfl (by kernel_rfl) (by kernel_rfl) (by kernel_rfl) (fun _ _ _ h => h) (Or.inl ⟨by rfl, ?_⟩) (by assumption) ?_
    rotate_left
    · (intro w hSw; (try dsimp only at hSw); go_simp; (try with_reducible rfl))
    try simp only [Act.put, List.setIfInBounds_toArray, List.set_cons_zero, List.set_cons_succ]
    refine wpAnyH_take (i := 8) (v := ?_) rfl (by kernel_rfl) (by kernel_rfl) (by kernel_rfl) (fun _ _ _ h => h) (Or.inl ⟨by rfl, ?_⟩) (by assumption) ?_
    rotate_left
    · (intro w hSw; (try dsimp only at hSw); go_simp; (try with_reducible rfl))
    try simp only [Act.put, List.setIfInBounds_toArray, List.set_cons_zero, List.set_cons_succ]
    refine wpAnyH_take (i := 9) (v := ?_) rfl (by kernel_rfl) (by kernel_rfl) (by kernel_rfl) (fun _ _ _ h => h) (Or.inl ⟨by rfl, ?_⟩) (by assumption) ?_
    rotate_left
    · (intro w hSw; (try dsimp only at hSw); go_simp; (try with_reducible rfl))
    try simp only [Act.put, List.setIfInBounds_toArray, List.set_cons_zero, List.set_cons_succ]
    refine wpAnyH_take (i := 12) (v := ?_) rfl (by kernel_rfl) (by kernel_rfl) (by kernel_rfl) (fun _ _ _ h => h) (Or.inl ⟨by rfl, ?_⟩) (by assumption) ?_
    rotate_left
    · (intro w hSw; (try dsimp only at hSw); go_simp; (try with_reducible rfl))
    try simp only [Act.put, List.setIfInBounds_toArray, List.set_cons_zero, List.set_cons_succ]
    refine wpAnyH_take (i := 13) (v := ?_) rfl (by kernel_rfl) (by kernel_rfl) (by kernel_rfl) (fun _ _ _ h => h) (Or.inl ⟨by rfl, ?_⟩) (by assumption) ?_
    rotate_left
    · (intro w hSw; (try dsimp only at hSw); go_simp; (try with_reducible rfl))
    try simp only [Act.put, List.setIfInBounds_toArray, List.set_cons_zero, List.set_cons_succ]
    refine wpAnyH_take (i := 14) (v := ?_) rfl (by kernel_rfl) (by kernel_rfl) (by kernel_rfl) (fun _ _ _ h => h) (Or.inl ⟨by rfl, ?_⟩) (by assumption) ?_
    rotate_left
    · (intro w hSw; (try dsimp only at hSw); go_simp; (try with_reducible rfl))
    try simp only [Act.put, List.setIfInBounds_toArray, List.set_cons_zero, List.set_cons_succ]
    refine wpAnyH_take (i := 18) (v := ?_) rfl (by kernel_rfl) (by kernel_rfl) (by kernel_rfl) (fun _ _ _ h => h) (Or.inl ⟨by rfl, ?_⟩) (by assumption) ?_
    rotate_left
    · (intro w hSw; (try dsimp only at hSw); go_simp; (try with_reducible rfl))
    try simp only [Act.put, List.setIfInBounds_toArray, List.set_cons_zero, List.set_cons_succ]
    refine wpAnyH_take (i := 19) (v := ?_) rfl (by kernel_rfl) (by kernel_rfl) (by kernel_rfl) (fun _ _ _ h => h) (Or.inl ⟨by rfl, ?_⟩) (by assumption) ?_
    rotate_left
    · (intro w hSw; (try dsimp only at hSw); go_simp; (try with_reducible rfl))
    try simp only [Act.put, List.setIfInBounds_toArray, List.set_cons_zero, List.set_cons_succ]
    refine wpAnyH_ready (rs := [1, 15]) (by kernel_rfl) (by simp) ?_
    refine AllReadyH.cons rfl (fun K hK => ?_) ?_
    · (go_simp; refine (HA1.out _).mono ?_; rintro e w' ⟨rfl, hL⟩; (try (have hg := HBD.out _ _ hL; have hcv := HBC.out _ _ hg)); (try (have hg := HBF.out _ _ hL; have hcv := HBC.out _ _ hg)); (try (have hg2 := Blk.below hg0 hL (Blk.lt hg0); have hcv := HBC.out _ _ hg2)); (try (have hg0 := hg)); go_wp2_with fail)
      refine hK.out _ _ ?_ (fun hHeld => ?_)
      · (try dsimp only); (first | assumption | (refine held_drew ?_; assumption) | (refine held_alloc _ ?_; assumption) | (refine held_drew (held_alloc _ ?_); assumption) | (refine held_below ?_ (by assumption); assumption))
      clear hK K
      try simp only [Act.put, List.setIfInBounds_toArray, List.set_cons_zero, List.set_cons_succ]
      refine wpAnyH_ready (rs := [10, 15]) (by kernel_rfl) (by simp) ?_
      refine AllReadyH.cons rfl (fun K hK => ?_) ?_
      · (go_simp; refine (HA2.out _).mono ?_; rintro e w' ⟨rfl, hL⟩; (try (have hg := HBD.out _ _ hL; have hcv := HBC.out _ _ hg)); (try (have hg := HBF.out _ _ hL; have hcv := HBC.out _ _ hg)); (try (have hg2 := Blk.below hg0 hL (Blk.lt hg0); have hcv := HBC.out _ _ hg2)); (try (have hg0 := hg)); go_wp2_with fail)
        refine hK.out _ _ ?_ (fun hHeld => ?_)
        · (try dsimp only); (first | assumption | (refine held_drew ?_; assumption) | (refine held_alloc _ ?_; assumption) | (refine held_drew (held_alloc _ ?_); assumption) | (refine held_below ?_ (by assumption); assumption))
        clear hK K
        try simp only [Act.put, List.setIfInBounds_toArray, List.set_cons_zero, List.set_cons_succ]
        refine wpAnyH_take (i := 11) (v := ?_) rfl (by kernel_rfl) (by kernel_rfl) (by kernel_rfl) (fun _ _ _ h => h) (Or.inl ⟨by rfl, ?_⟩) (by assumption) ?_
        rotate_left
        · (intro w hSw; (try dsimp only at hSw); go_simp; (try with_reducible rfl))
        try simp only [Act.put, List.setIfInBounds_toArray, List.set_cons_zero, List.set_cons_succ]
        refine wpAnyH_ready (rs := [15]) (by kernel_rfl) (by simp) ?_
        refine AllReadyH.cons rfl (fun K hK => ?_) ?_
        · go_simp
          refine hK.out _ _ ?_ (fun hHeld => ?_)
          · (try dsimp only); (first | assumption | (refine held_drew ?_; assumption) | (refine held_alloc _ ?_; assumption) | (refine held_drew (held_alloc _ ?_); assumption) | (refine held_below ?_ (by assumption); assumption))
          clear hK K
          try simp only [Act.put, List.setIfInBounds_toArray, List.set_cons_zero, List.set_cons_succ]
          refine wpAnyH_ready (rs := [16]) (by kernel_rfl) (by simp) ?_
          refine AllReadyH.cons rfl (fun K hK => ?_) ?_
          · go_simp
            refine hK.out _ _ ?_ (fun hHeld => ?_)
            · (try dsimp only); (first | assumption | (refine held_drew ?_; assumption) | (refine held_alloc _ ?_; assumption) | (refine held_drew (held_alloc _ ?_); assumption) | (refine held_below ?_ (by assumption); assumption))
            clear hK K
            try simp only [Act.put, List.setIfInBounds_toArray, List.set_cons_zero, List.set_cons_succ]
            refine wpAnyH_take (i := 17) (v := ?_) rfl (by kernel_rfl) (by kernel_rfl) (by kernel_rfl) (fun _ _ _ h => h) (Or.inl ⟨by rfl, ?_⟩) (by assumption) ?_
            rotate_left
            · (intro w hSw; (try dsimp only at hSw); go_simp; (try with_reducible rfl))
            try simp only [Act.put, List.setIfInBounds_toArray, List.set_cons_zero, List.set_cons_succ]
            refine wpAnyH_take (i := 20) (v := ?_) rfl (by kernel_rfl) (by kernel_rfl) (by kernel_rfl) (fun _ _ _ h => h) (Or.inl ⟨by rfl, ?_⟩) (by assumption) ?_
            rotate_left
            · (intro w hSw; (try dsimp only at hSw); go_simp; (try with_reducible rfl))
            try simp only [Act.put, List.setIfInBounds_toArray, List.set_cons_zero, List.set_cons_succ]
            refine wpAnyH_take (i := 21) (v := ?_) rfl (by kernel_rfl) (by kernel_rfl) (by kernel_rfl) (fun _ _ _ h => h) (Or.inl ⟨by rfl, ?_⟩) (by assumption) ?_
            rotate_left
            · (intro w hSw; (try dsimp only at hSw); go_simp; (try with_reducible rfl))
            try simp only [Act.put, List.setIfInBounds_toArray, List.set_cons_zero, List.set_cons_succ]
            refine wpAnyH_done (by kernel_rfl) ?_ _
            refine NoPanic.normal ?_
            refine gen_post (fun w' => RestP w w') ?_ ?_
            · exact rest_of (by assumption)
            rintro w3 hR
            have HL3 := Lib.hid hR.1; clear hR
            generalize sa ++ sb ++ sc ++ d = tot at *
            go_wp2_with fail
            refine (HS.out _).mono ?_
            rintro e w' ⟨rfl, rfl⟩
            go_wp2_with fail
            refine (HA3.out _).mono ?_
            rintro e w4 ⟨rfl, hL4⟩
            have HL4 := Lib.hid (HL3.out.trans (hL4.mono HL3.out.size)); clear hL4
            go_wp2_with fail
            go_ret2
            exact ⟨by (rw [HF.out]) <;> rfl, HL4.out⟩
          exact AllReadyH.nil
        exact AllReadyH.nil
      refine AllReadyH.cons rfl (fun K hK => ?_) ?_
      · go_simp
        refine hK.out _ _ ?_ (fun hHeld => ?_)
        · (try dsimp only); (first | assumption | (refine held_drew ?_; assumption) | (refine held_alloc _ ?_; assumption) | (refine held_drew (held_alloc _ ?_); assumption) | (refine held_below ?_ (by assumption); assumption))
        clear hK K
        try simp only [Act.put, List.setIfInBounds_toArray, List.set_cons_zero, List.set_cons_succ]
        refine wpAnyH_ready (rs := [10, 16]) (by kernel_rfl) (by simp) ?_
        refine AllReadyH.cons rfl (fun K hK => ?_) ?_
        · (go_simp; refine (HA2.out _).mono ?_; rintro e w' ⟨rfl, hL⟩; (try (have hg := HBD.out _ _ hL; have hcv := HBC.out _ _ hg)); (try (have hg := HBF.out _ _ hL; have hcv := HBC.out _ _ hg)); (try (have hg2 := Blk.below hg0 hL (Blk.lt hg0); have hcv := HBC.out _ _ hg2)); (try (have hg0 := hg)); go_wp2_with fail)
          refine hK.out _ _ ?_ (fun hHeld => ?_)
          · (try dsimp only); (first | assumption | (refine held_drew ?_; assumption) | (refine held_alloc _ ?_; assumption) | (refine held_drew (held_alloc _ ?_); assumption) | (refine held_below ?_ (by assumption); assumption))
          clear hK K
          try simp only [Act.put, List.setIfInBounds_toArray, List.set_cons_zero, List.set_cons_succ]
          refine wpAnyH_take (i := 11) (v := ?_) rfl (by kernel_rfl) (by kernel_rfl) (by kernel_rfl) (fun _ _ _ h => h) (Or.inl ⟨by rfl, ?_⟩) (by assumption) ?_
          rotate_left
          · (intro w hSw; (try dsimp only at hSw); go_simp; (try with_reducible rfl))
          try simp only [Act.put, List.setIfInBounds_toArray, List.set_cons_zero, List.set_cons_succ]
          refine wpAnyH_ready (rs := [16]) (by kernel_rfl) (by simp) ?_
          refine AllReadyH.cons rfl (fun K hK => ?_) ?_
          · go_simp
            refine hK.out _ _ ?_ (fun hHeld => ?_)
            · (try dsimp only); (first | assumption | (refine held_drew ?_; assumption) | (refine held_alloc _ ?_; assumption) | (refine held_drew (held_alloc _ ?_); assumption) | (refine held_below ?_ (by assumption); assumption))
            clear hK K
            try simp only [Act.put, List.setIfInBounds_toArray, List.set_cons_zero, List.set_cons_succ]
            refine wpAnyH_take (i := 17) (v := ?_) rfl (by kernel_rfl) (by kernel_rfl) (by kernel_rfl) (fun _ _ _ h => h) (Or.inl ⟨by rfl, ?_⟩) (by assumption) ?_
            rotate_left
            · (intro w hSw; (try dsimp only at hSw); go_simp; (try with_reducible rfl))
            try simp only [Act.put, List.setIfInBounds_toArray, List.set_cons_zero, List.set_cons_succ]
            refine wpAnyH_take (i := 20) (v := ?_) rfl (by kernel_rfl) (by kernel_rfl) (by kernel_rfl) (fun _ _ _ h => h) (Or.inl ⟨by rfl, ?_⟩) (by assumption) ?_
            rotate_left
            · (intro w hSw; (try dsimp only at hSw); go_simp; (try with_reducible rfl))
            try simp only [Act.put, List.setIfInBounds_toArray, List.set_cons_zero, List.set_cons_succ]
            refine wpAnyH_take (i := 21) (v := ?_) rfl (by kernel_rfl) (by kernel_rfl) (by kernel_rfl) (fun _ _ _ h => h) (Or.inl ⟨by rfl, ?_⟩) (by assumption) ?_
            rotate_left
            · (intro w hSw; (try dsimp only at hSw); go_simp; (try with_reducible rfl))
            try simp only [Act.put, List.setIfInBounds_toArray, List.set_cons_zero, List.set_cons_succ]
            refine wpAnyH_done (by kernel_rfl) ?_ _
            refine NoPanic.normal ?_
            refine gen_post (fun w' => RestP w w') ?_ ?_
            · exact rest_of (by assumption)
            rintro w3 hR
            have HL3 := Lib.hid hR.1; clear hR
            generalize sa ++ sb ++ sc ++ d = tot at *
            go_wp2_with fail
            refine (HS.out _).mono ?_
            rintro e w' ⟨rfl, rfl⟩
            go_wp2_with fail
            refine (HA3.out _).mono ?_
            rintro e w4 ⟨rfl, hL4⟩
            have HL4 := Lib.hid (HL3.out.trans (hL4.mono HL3.out.size)); clear hL4
            go_wp2_with fail
            go_ret2
            exact ⟨by (rw [HF.out]) <;> rfl, HL4.out⟩
          exact AllReadyH.nil
        refine AllReadyH.cons rfl (fun K hK => ?_) ?_
        · go_simp
          refine hK.out _ _ ?_ (fun hHeld => ?_)
          · (try dsimp only); (first | assumption | (refine held_drew ?_; assumption) | (refine held_alloc _ ?_; assumption) | (refine held_drew (held_alloc _ ?_); assumption) | (refine held_below ?_ (by assumption); assumption))
          clear hK K
          try simp only [Act.put, List.setIfInBounds_toArray, List.set_cons_zero, List.set_cons_succ]
          refine wpAnyH_ready (rs := [10]) (by kernel_rfl) (by simp) ?_
          refine AllReadyH.cons rfl (fun K hK => ?_) ?_
          · (go_simp; refine (HA2.out _).mono ?_; rintro e w' ⟨rfl, hL⟩; (try (have hg := HBD.out _ _ hL; have hcv := HBC.out _ _ hg)); (try (have hg := HBF.out _ _ hL; have hcv := HBC.out _ _ hg)); (try (have hg2 := Blk.below hg0 hL (Blk.lt hg0); have hcv := HBC.out _ _ hg2)); (try (have hg0 := hg)); go_wp2_with fail)
            refine hK.out _ _ ?_ (fun hHeld => ?_)
            · (try dsimp only); (first | assumption | (refine held_drew ?_; assumption) | (refine held_alloc _ ?_; assumption) | (refine held_drew (held_alloc _ ?_); assumption) | (refine held_below ?_ (by assumption); assumption))
            clear hK K
            try simp only [Act.put, List.setIfInBounds_toArray, List.set_cons_zero, List.set_cons_succ]
            refine wpAnyH_take (i := 11) (v := ?_) rfl (by kernel_rfl) (by kernel_rfl) (by kernel_rfl) (fun _ _ _ h => h) (Or.inl ⟨by rfl, ?_⟩) (by assumption) ?_
            rotate_left
            · (intro w hSw; (try dsimp only at hSw); go_simp; (try with_reducible rfl))
            try simp only [Act.put, List.setIfInBounds_toArray, List.set_cons_zero, List.set_cons_succ]
            refine wpAnyH_take (i := 17) (v := ?_) rfl (by kernel_rfl) (by kernel_rfl) (by kernel_rfl) (fun _ _ _ h => h) (Or.inl ⟨by rfl, ?_⟩) (by assumption) ?_
            rotate_left
            · (intro w hSw; (try dsimp only at hSw); go_simp; (try with_reducible rfl))
            try simp only [Act.put, List.setIfInBounds_toArray, List.set_cons_zero, List.set_cons_succ]
            refine wpAnyH_take (i := 20) (v := ?_) rfl (by kernel_rfl) (by kernel_rfl) (by kernel_rfl) (fun _ _ _ h => h) (Or.inl ⟨by rfl, ?_⟩) (by assumption) ?_
            rotate_left
            · (intro w hSw; (try dsimp only at hSw); go_simp; (try with_reducible rfl))
            try simp only [Act.put, List.setIfInBounds_toArray, List.set_cons_zero, List.set_cons_succ]
            refine wpAnyH_take (i := 21) (v := ?_) rfl (by kernel_rfl) (by kernel_rfl) (by kernel_rfl) (fun _ _ _ h => h) (Or.inl ⟨by rfl, ?_⟩) (by assumption) ?_
            rotate_left
            · (intro w hSw; (try dsimp only at hSw); go_simp; (try with_reducible rfl))
            try simp only [Act.put, List.setIfInBounds_toArray, List.set_cons_zero, List.set_cons_succ]
            refine wpAnyH_done (by kernel_rfl) ?_ _
            refine NoPanic.normal ?_
            refine gen_post (fun w' => RestP w w') ?_ ?_
            · exact rest_of (by assumption)
            rintro w3 hR
            have HL3 := Lib.hid hR.1; clear hR
            generalize sa ++ sb ++ sc ++ d = tot at *
            go_wp2_with fail
            refine (HS.out _).mono ?_
            rintro e w' ⟨rfl, rfl⟩
            go_wp2_with fail
            refine (HA3.out _).mono ?_
            rintro e w4 ⟨rfl, hL4⟩
            have HL4 := Lib.hid (HL3.out.trans (hL4.mono HL3.out.size)); clear hL4
            go_wp2_with fail
            go_ret2
            exact ⟨by (rw [HF.out]) <;> rfl, HL4.out⟩
          exact AllReadyH.nil
        exact AllReadyH.nil
      exact AllReadyH.nil
    refine AllReadyH.cons rfl (fun K hK => ?_) ?_
    · go_simp
      refine hK.out _ _ ?_ (fun hHeld => ?_)
      · (try dsimp only); (first | assumption | (refine held_drew ?_; assumption) | (refine held_alloc _ ?_; assumption) | (refine held_drew (held_alloc _ ?_); assumption) | (refine held_below ?_ (by assumption); assumption))
      clear hK K
      try simp only [Act.put, List.setIfInBounds_toArray, List.set_cons_zero, List.set_cons_succ]
      refine wpAnyH_ready (rs := [1, 16]) (by kernel_rfl) (by simp) ?_
      refine AllReadyH.cons rfl (fun K hK => ?_) ?_
      · (go_simp; refine (HA1.out _).mono ?_; rintro e w' ⟨rfl, hL⟩; (try (have hg := HBD.out _ _ hL; have hcv := HBC.out _ _ hg)); (try (have hg := HBF.out _ _ hL; have hcv := HBC.out _ _ hg)); (try (have hg2 := Blk.below hg0 hL (Blk.lt hg0); have hcv := HBC.out _ _ hg2)); (try (have hg0 := hg)); go_wp2_with fail)
        refine hK.out _ _ ?_ (fun hHeld => ?_)
        · (try dsimp only); (first | assumption | (refine held_drew ?_; assumption) | (refine held_alloc _ ?_; assumption) | (refine held_drew (held_alloc _ ?_); assumption) | (refine held_below ?_ (by assumption); assumption))
        clear hK K
        try simp only [Act.put, List.setIfInBounds_toArray, List.set_cons_zero, List.set_cons_succ]
        refine wpAnyH_ready (rs := [10, 16]) (by kernel_rfl) (by simp) ?_
        refine AllReadyH.cons rfl (fun K hK => ?_) ?_
        · (go_simp; refine (HA2.out _).mono ?_; rintro e w' ⟨rfl, hL⟩; (try (have hg := HBD.out _ _ hL; have hcv := HBC.out _ _ hg)); (try (have hg := HBF.out _ _ hL; have hcv := HBC.out _ _ hg)); (try (have hg2 := Blk.below hg0 hL (Blk.lt hg0); have hcv := HBC.out _ _ hg2)); (try (have hg0 := hg)); go_wp2_with fail)
          refine hK.out _ _ ?_ (fun hHeld => ?_)
          · (try dsimp only); (first | assumption | (refine held_drew ?_; assumption) | (refine held_alloc _ ?_; assumption) | (refine held_drew (held_alloc _ ?_); assumption) | (refine held_below ?_ (by assumption); assumption))
          clear hK K
          try simp only [Act.put, List.setIfInBounds_toArray, List.set_cons_zero, List.set_cons_succ]
          refine wpAnyH_take (i := 11) (v := ?_) rfl (by kernel_rfl) (by kernel_rfl) (by kernel_rfl) (fun _ _ _ h => h) (Or.inl ⟨by rfl, ?_⟩) (by assumption) ?_
          rotate_left
          · (intro w hSw; (try dsimp only at hSw); go_simp; (try with_reducible rfl))
          try simp only [Act.put, List.setIfInBounds_toArray, List.set_cons_zero, List.set_cons_succ]
          refine wpAnyH_ready (rs := [16]) (by kernel_rfl) (by simp) ?_
          refine AllReadyH.cons rfl (fun K hK => ?_) ?_
          · go_simp
            refine hK.out _ _ ?_ (fun hHeld => ?_)
            · (try dsimp only); (first | assumption | (refine held_drew ?_; assumption) | (refine held_alloc _ ?_; assumption) | (refine held_drew (held_alloc _ ?_); assumption) | (refine held_below ?_ (by assumption); assumption))
            clear hK K
            try simp only [Act.put, List.setIfInBounds_toArray, List.set_cons_zero, List.set_cons_succ]
            refine wpAnyH_take (i := 17) (v := ?_) rfl (by kernel_rfl) (by kernel_rfl) (by kernel_rfl) (fun _ _ _ h => h) (Or.inl ⟨by rfl, ?_⟩) (by assumption) ?_
            rotate_left
            · (intro w hSw; (try dsimp only at hSw); go_simp; (try with_reducible rfl))
            try simp only [Act.put, List.setIfInBounds_toArray, List.set_cons_zero, List.set_cons_succ]
            refine wpAnyH_take (i := 20) (v := ?_) rfl (by kernel_rfl) (by kernel_rfl) (by kernel_rfl) (fun _ _ _ h => h) (Or.inl ⟨by rfl, ?_⟩) (by assumption) ?_
            rotate_left
            · (intro w hSw; (try dsimp only at hSw); go_simp; (try with_reducible rfl))
            try simp only [Act.put, List.setIfInBounds_toArray, List.set_cons_zero, List.set_cons_succ]
            refine wpAnyH_take (i := 21) (v := ?_) rfl (by kernel_rfl) (by kernel_rfl) (by kernel_rfl) (fun _ _ _ h => h) (Or.inl ⟨by rfl, ?_⟩) (by assumption) ?_
            rotate_left
            · (intro w hSw; (try dsimp only at hSw); go_simp; (try with_reducible rfl))
            try simp only [Act.put, List.setIfInBounds_toArray, List.set_cons_zero, List.set_cons_succ]
            refine wpAnyH_done (by kernel_rfl) ?_ _
            refine NoPanic.normal ?_
            refine gen_post (fun w' => RestP w w') ?_ ?_
            · exact rest_of (by assumption)
            rintro w3 hR
            have HL3 := Lib.hid hR.1; clear hR
            generalize sa ++ sb ++ sc ++ d = tot at *
            go_wp2_with fail
            refine (HS.out _).mono ?_
            rintro e w' ⟨rfl, rfl⟩
            go_wp2_with fail
            refine (HA3.out _).mono ?_
            rintro e w4 ⟨rfl, hL4⟩
            have HL4 := Lib.hid (HL3.out.trans (hL4.mono HL3.out.size)); clear hL4
            go_wp2_with fail
            go_ret2
            exact ⟨by (rw [HF.out]) <;> rfl, HL4.out⟩
          exact AllReadyH.nil
        refine AllReadyH.cons rfl (fun K hK => ?_) ?_
        · go_simp
          refine hK.out _ _ ?_ (fun hHeld => ?_)
          · (try dsimp only); (first | assumption | (refine held_drew ?_; assumption) | (refine held_alloc _ ?_; assumption) | (refine held_drew (held_alloc _ ?_); assumption) | (refine held_below ?_ (by assumption); assumption))
          clear hK K
          try simp only [Act.put, List.setIfInBounds_toArray, List.set_cons_zero, List.set_cons_succ]
          refine wpAnyH_ready (rs := [10]) (by kernel_rfl) (by simp) ?_
          refine AllReadyH.cons rfl (fun K hK => ?_) ?_
          · (go_simp; refine (HA2.out _).mono ?_; rintro e w' ⟨rfl, hL⟩; (try (have hg := HBD.out _ _ hL; have hcv := HBC.out _ _ hg)); (try (have hg := HBF.out _ _ hL; have hcv := HBC.out _ _ hg)); (try (have hg2 := Blk.below hg0 hL (Blk.lt hg0); have hcv := HBC.out _ _ hg2)); (try (have hg0 := hg)); go_wp2_with fail)
            refine hK.out _ _ ?_ (fun hHeld => ?_)
            · (try dsimp only); (first | assumption | (refine held_drew ?_; assumption) | (refine held_alloc _ ?_; assumption) | (refine held_drew (held_alloc _ ?_); assumption) | (refine held_below ?_ (by assumption); assumption))
            clear hK K
            try simp only [Act.put, List.setIfInBounds_toArray, List.set_cons_zero, List.set_cons_succ]
            refine wpAnyH_take (i := 11) (v := ?_) rfl (by kernel_rfl) (by kernel_rfl) (by kernel_rfl) (fun _ _ _ h => h) (Or.inl ⟨by rfl, ?_⟩) (by assumption) ?_
            rotate_left
            · (intro w hSw; (try dsimp only at hSw); go_simp; (try with_reducible rfl))
            try simp only [Act.put, List.setIfInBounds_toArray, List.set_cons_zero, List.set_cons_succ]
            refine wpAnyH_take (i := 17) (v := ?_) rfl (by kernel_rfl) (by kernel_rfl) (by kernel_rfl) (fun _ _ _ h => h) (Or.inl ⟨by rfl, ?_⟩) (by assumption) ?_
            rotate_left
            · (intro w hSw; (try dsimp only at hSw); go_simp; (try with_reducible rfl))
            try simp only [Act.put, List.setIfInBounds_toArray, List.set_cons_zero, List.set_cons_succ]
            refine wpAnyH_take (i := 20) (v := ?_) rfl (by kernel_rfl) (by kernel_rfl) (by kernel_rfl) (fun _ _ _ h => h) (Or.inl ⟨by rfl, ?_⟩) (by assumption) ?_
            rotate_left
            · (intro w hSw; (try dsimp only at hSw); go_simp; (try with_reducible rfl))
            try simp only [Act.put, List.setIfInBounds_toArray, List.set_cons_zero, List.set_cons_succ]
            refine wpAnyH_take (i := 21) (v := ?_) rfl (by kernel_rfl) (by kernel_rfl) (by kernel_rfl) (fun _ _ _ h => h) (Or.inl ⟨by rfl, ?_⟩) (by assumption) ?_
            rotate_left
            · (intro w hSw; (try dsimp only at hSw); go_simp; (try with_reducible rfl))
            try simp only [Act.put, List.setIfInBounds_toArray, List.set_cons_zero, List.set_cons_succ]
            refine wpAnyH_done (by kernel_rfl) ?_ _
            refine NoPanic.normal ?_
            refine gen_post (fun w' => RestP w w') ?_ ?_
            · exact rest_of (by assumption)
            rintro w3 hR
            have HL3 := Lib.hid hR.1; clear hR
            generalize sa ++ sb ++ sc ++ d = tot at *
            go_wp2_with fail
            refine (HS.out _).mono ?_
            rintro e w' ⟨rfl, rfl⟩
            go_wp2_with fail
            refine (HA3.out _).mono ?_
            rintro e w4 ⟨rfl, hL4⟩
            have HL4 := Lib.hid (HL3.out.trans (hL4.mono HL3.out.size)); clear hL4
            go_wp2_with fail
            go_ret2
            exact ⟨by (rw [HF.out]) <;> rfl, HL4.out⟩
          exact AllReadyH.nil
        exact AllReadyH.nil
      refine AllReadyH.cons rfl (fun K hK => ?_) ?_
      · go_simp
        refine hK.out _ _ ?_ (fun hHeld => ?_)
        · (try dsimp only); (first | assumption | (refine held_drew ?_; assumption) | (refine held_alloc _ ?_; assumption) | (refine held_drew (held_alloc _ ?_); assumption) | (refine held_below ?_ (by assumption); assumption))
        clear hK K
        try simp only [Act.put, List.setIfInBounds_toArray, List.set_cons_zero, List.set_cons_succ]
        refine wpAnyH_ready (rs := [1]) (by kernel_rfl) (by simp) ?_
        refine AllReadyH.cons rfl (fun K hK => ?_) ?_
        · (go_simp; refine (HA1.out _).mono ?_; rintro e w' ⟨rfl, hL⟩; (try (have hg := HBD.out _ _ hL; have hcv := HBC.out _ _ hg)); (try (have hg := HBF.out _ _ hL; have hcv := HBC.out _ _ hg)); (try (have hg2 := Blk.below hg0 hL (Blk.lt hg0); have hcv := HBC.out _ _ hg2)); (try (have hg0 := hg)); go_wp2_with fail)
          refine hK.out _ _ ?_ (fun hHeld => ?_)
          · (try dsimp only); (first | assumption | (refine held_drew ?_; assumption) | (refine held_alloc _ ?_; assumption) | (refine held_drew (held_alloc _ ?_); assumption) | (refine held_below ?_ (by assumption); assumption))
          clear hK K
          try simp only [Act.put, List.setIfInBounds_toArray, List.set_cons_zero, List.set_cons_succ]
          refine wpAnyH_ready (rs := [10]) (by kernel_rfl) (by simp) ?_
          refine AllReadyH.cons rfl (fun K hK => ?_) ?_
          · (go_simp; refine (HA2.out _).mono ?_; rintro e w' ⟨rfl, hL⟩; (try (have hg := HBD.out _ _ hL; have hcv := HBC.out _ _ hg)); (try (have hg := HBF.out _ _ hL; have hcv := HBC.out _ _ hg)); (try (have hg2 := Blk.below hg0 hL (Blk.lt hg0); have hcv := HBC.out _ _ hg2)); (try (have hg0 := hg)); go_wp2_with fail)
            refine hK.out _ _ ?_ (fun hHeld => ?_)
            · (try dsimp only); (first | assumption | (refine held_drew ?_; assumption) | (refine held_alloc _ ?_; assumption) | (refine held_drew (held_alloc _ ?_); assumption) | (refine held_below ?_ (by assumption); assumption))
            clear hK K
            try simp only [Act.put, List.setIfInBounds_toArray, List.set_cons_zero, List.set_cons_succ]
            refine wpAnyH_take (i := 11) (v := ?_) rfl (by kernel_rfl) (by kernel_rfl) (by kernel_rfl) (fun _ _ _ h => h) (Or.inl ⟨by rfl, ?_⟩) (by assumption) ?_
            rotate_left
            · (intro w hSw; (try dsimp only at hSw); go_simp; (try with_reducible rfl))
            try simp only [Act.put, List.setIfInBounds_toArray, List.set_cons_zero, List.set_cons_succ]
            refine wpAnyH_take (i := 17) (v := ?_) rfl (by kernel_rfl) (by kernel_rfl) (by kernel_rfl) (fun _ _ _ h => h) (Or.inl ⟨by rfl, ?_⟩) (by assumption) ?_
            rotate_left
            · (intro w hSw; (try dsimp only at hSw); go_simp; (try with_reducible rfl))
            try simp only [Act.put, List.setIfInBounds_toArray, List.set_cons_zero, List.set_cons_succ]
            refine wpAnyH_take (i := 20) (v := ?_) rfl (by kernel_rfl) (by kernel_rfl) (by kernel_rfl) (fun _ _ _ h => h) (Or.inl ⟨by rfl, ?_⟩) (by assumption) ?_
            rotate_left
            · (intro w hSw; (try dsimp only at hSw); go_simp; (try with_reducible rfl))
            try simp only [Act.put, List.setIfInBounds_toArray, List.set_cons_zero, List.set_cons_succ]
            refine wpAnyH_take (i := 21) (v := ?_) rfl (by kernel_rfl) (by kernel_rfl) (by kernel_rfl) (fun _ _ _ h => h) (Or.inl ⟨by rfl, ?_⟩) (by assumption) ?_
            rotate_left
            · (intro w hSw; (try dsimp only at hSw); go_simp; (try with_reducible rfl))
            try simp only [Act.put, List.setIfInBounds_toArray, List.set_cons_zero, List.set_cons_succ]
            refine wpAnyH_done (by kernel_rfl) ?_ _
            refine NoPanic.normal ?_
            refine gen_post (fun w' => RestP w w') ?_ ?_
            · exact rest_of (by assumption)
            rintro w3 hR
            have HL3 := Lib.hid hR.1; clear hR
            generalize sa ++ sb ++ sc ++ d = tot at *
            go_wp2_with fail
            refine (HS.out _).mono ?_
            rintro e w' ⟨rfl, rfl⟩
            go_wp2_with fail
            refine (HA3.out _).mono ?_
            rintro e w4 ⟨rfl, hL4⟩
            have HL4 := Lib.hid (HL3.out.trans (hL4.mono HL3.out.size)); clear hL4
            go_wp2_with fail
            go_ret2
            exact ⟨by (rw [HF.out]) <;> rfl, HL4.out⟩
          exact AllReadyH.nil
        exact AllReadyH.nil
      exact AllReadyH.nil
    exact AllReadyH.nil
  · have hd2 : hd = c + 8192 + 4096 := by simpa using hhd
    clear hhd
    have HD2 := Lib.hid hd2; clear hd2
    go_enter Try.func30, Try.ntmps30
    go_wp2_with fail
    refine (HV.out _).mono ?_
    rintro e w1 ⟨rfl, hL1⟩
    have HL1 := Lib.hid (HL0.out.trans (hL1.mono HL0.out.size))
    have hs1 : w.heap.size + 1 ≤ w1.heap.size := by have := hL1.size; simp at this; omega
    have HB1 := Lib.hid (HB.out.below hL1 (by simp)); clear hL1
    have c0 := HB1.out.cell 0
    have c1 := HB1.out.cell 1
    have c2 := HB1.out.cell 2
    have c3 := HB1.out.cell 3
    have c4 := HB1.out.cell 4
    have c5 := HB1.out.cell 5
    simp only [Tc.cells, List.getElem?_cons_zero, List.getElem?_cons_succ] at c0 c1 c2 c3 c4 c5
    go_wp2_with fail
    rw [show (c : Int) + 8192 + 4096 = (hd : Int) by have := HD2.out; omega]
    clear c0 c2 c3
    have hw1 : IntKind.i64.wrap ((ch : Int) * 1024) = (ch : Int) * 1024 := IntWalk.i64_in _ (by omega)
    have hw2 : IntKind.i64.wrap ((ch : Int) * 1024 + (d.size : Int)) = (ch : Int) * 1024 + (d.size : Int) := IntWalk.i64_in _ (by omega)
    have hw3 : IntKind.i64.wrap ((ch : Int) * 1024 + (d.size : Int) + 6) = (sz : Int) := (IntWalk.i64_in _ (by omega)).trans HO4.out
    have hw4 : IntKind.u8.wrap (s : Int) = (s : Int) := by rw [IntKind.wrap_u8']; omega
    have hbs := HBS.out
    have hbs3 := HB3.out
    have hn1 : ¬ (9223372036854775807 < (sa.size : Int) + (sb.size : Int)) := by omega
    have hn2 : ¬ (9223372036854775807 < sa.size + sb.size) := by omega
    have hn3 : ¬ (9223372036854775807 < sa.size + sb.size + sc.size) := by omega
    have hn4 : ¬ (9223372036854775807 < sa.size + sb.size + sc.size + d.size) := by omega
    have hn5 : ¬ (9223372036854775807 < (sa.size : Int) + (sb.size : Int) + (sc.size : Int)) := by omega
    have hn6 : ¬ (9223372036854775807 < (sa.size : Int) + (sb.size : Int) + (sc.size : Int) + (d.size : Int)) := by omega
    have hS1 : RestP w w1 := ⟨HL1.out, hs1⟩
    have hconj := And.intro c1 (And.intro c4 (And.intro c5 hS1))
    refine wp_region_noPanic ?_
    refine wp_region_held_drew (S := (fun w' => w'.cell? ⟨w.heap.size, 1, none⟩ = some (.int .i64 ch) ∧ w'.cell? ⟨w.heap.size, 4, none⟩ = some (.int .i64 s) ∧ w'.cell? ⟨w.heap.size, 5, none⟩ = some (.string d) ∧ RestP w w')) (by kernel_rfl) ?_ (fun hHeld => ?_)
    · (try dsimp only); (first | assumption | (refine held_drew ?_; assumption) | (refine held_alloc _ ?_; assumption) | (refine held_drew (held_alloc _ ?_); assumption) | (refine held_below ?_ (by assumption); assumption))
    refine wpAnyH_take (i := 0) (v := ?_) rfl (by kernel_rfl) (by kernel_rfl) (by kernel_rfl) (fun _ _ _ h => h) (Or.inl ⟨by rfl, ?_⟩) (by assumption) ?_
    rotate_left
    · (intro w hSw; (try dsimp only at hSw); go_simp; (try with_reducible rfl))
    try simp only [Act.put, List.setIfInBounds_toArray, List.set_cons_zero, List.set_cons_succ]
    refine wpAnyH_take (i := 2) (v := ?_) rfl (by kernel_rfl) (by kernel_rfl) (by kernel_rfl) (fun _ _ _ h => h) (Or.inl ⟨by rfl, ?_⟩) (by assumption) ?_
    rotate_left
    · (intro w hSw; (try dsimp only at hSw); go_simp; (try with_reducible rfl))
    try simp only [Act.put, List.setIfInBounds_toArray, List.set_cons_zero, List.set_cons_succ]
    refine wpAnyH_take (i := 3) (v := ?_) rfl (by kernel_rfl) (by kernel_rfl) (by kernel_rfl) (fun _ _ _ h => h) (Or.inl ⟨by rfl, ?_⟩) (by assumption) ?_
    rotate_left
    · (intro w hSw; (try dsimp only at hSw); go_simp; (try with_reducible rfl))
    try simp only [Act.put, List.setIfInBounds_toArray, List.set_cons_zero, List.set_cons_succ]
    refine wpAnyH_take (i := 4) (v := ?_) rfl (by kernel_rfl) (by kernel_rfl) (by kernel_rfl) (fun _ _ _ h => h) (Or.inl ⟨by rfl, ?_⟩) (by assumption) ?_
    rotate_left
    · (intro w hSw; (try dsimp only at hSw); go_simp; (try with_reducible rfl))
    try simp only [Act.put, List.setIfInBounds_toArray, List.set_cons_zero, List.set_cons_succ]
    refine wpAnyH_take (i := 5) (v := ?_) rfl (by kernel_rfl) (by kernel_rfl) (by kernel_rfl) (fun _ _ _ h => h) (Or.inl ⟨by rfl, ?_⟩) (by assumption) ?_
    rotate_left
    · (intro w hSw; (try dsimp only at hSw); go_simp; (try with_reducible rfl))
    try simp only [Act.put, List.setIfInBounds_toArray, List.set_cons_zero, List.set_cons_succ]
    refine wpAnyH_take (i := 6) (v := ?_) rfl (by kernel_rfl) (by kernel_rfl) (by kernel_rfl) (fun _ _ _ h => h) (Or.inl ⟨by rfl, ?_⟩) (by assumption) ?_
    rotate_left
    · (intro w hSw; (try dsimp only at hSw); go_simp; (try with_reducible rfl))
    try simp only [Act.put, List.setIfInBounds_toArray, List.set_cons_zero, List.set_cons_succ]
    refine wpAnyH_take (i := 7) (v := ?_) rfl (by kernel_rfl) (by kernel_rfl) (by kernel_rfl) (fun _ _ _ h => h) (Or.inl ⟨by rfl, ?_⟩) (by assumption) ?_
    rotate_left
    · (intro w hSw; (try dsimp only at hSw); go_simp; (try with_reducible rfl))
    try simp only [Act.put, List.setIfInBounds_toArray, List.set_cons_zero, List.set_cons_succ]
    refine wpAnyH_take (i := 8) (v := ?_) rfl (by kernel_rfl) (by kernel_rfl) (by kernel_rfl) (fun _ _ _ h => h) (Or.inl ⟨by rfl, ?_⟩) (by assumption) ?_
    rotate_left
    · (intro w hSw; (try dsimp only at hSw); go_simp; (try with_reducible rfl))
    try simp only [Act.put, List.setIfInBounds_toArray, List.set_cons_zero, List.set_cons_succ]
    refine wpAnyH_take (i := 9) (v := ?_) rfl (by kernel_rfl) (by kernel_rfl) (by kernel_rfl) (fun _ _ _ h => h) (Or.inl ⟨by rfl, ?_⟩) (by assumption) ?_
    rotate_left
    · (intro w hSw; (try dsimp only at hSw); go_simp; (try with_reducible rfl))
    try simp only [Act.put, List.setIfInBounds_toArray, List.set_cons_zero, List.set_cons_succ]
    refine wpAnyH_take (i := 12) (v := ?_) rfl (by kernel_rfl) (by kernel_rfl) (by kernel_rfl) (fun _ _ _ h => h) (Or.inl ⟨by rfl, ?_⟩) (by assumption) ?_
    rotate_left
    · (intro w hSw; (try dsimp only at hSw); go_simp; (try with_reducible rfl))
    try simp only [Act.put, List.setIfInBounds_toArray, List.set_cons_zero, List.set_cons_succ]
    refine wpAnyH_take (i := 13) (v := ?_) rfl (by kernel_rfl) (by kernel_rfl) (by kernel_rfl) (fun _ _ _ h => h) (Or.inl ⟨by rfl, ?_⟩) (by assumption) ?_
    rotate_left
    · (intro w hSw; (try dsimp only at hSw); go_simp; (try with_reducible rfl))
    try simp only [Act.put, List.setIfInBounds_toArray, List.set_cons_zero, List.set_cons_succ]
    refine wpAnyH_take (i := 14) (v := ?_) rfl (by kernel_rfl) (by kernel_rfl) (by kernel_rfl) (fun _ _ _ h => h) (Or.inl ⟨by rfl, ?_⟩) (by assumption) ?_
    rotate_left
    · (intro w hSw; (try dsimp only at hSw); go_simp; (try with_reducible rfl))
    try simp only [Act.put, List.setIfInBounds_toArray, List.set_cons_zero, List.set_cons_succ]
    refine wpAnyH_take (i := 18) (v := ?_) rfl (by kernel_rfl) (by kernel_rfl) (by kernel_rfl) (fun _ _ _ h => h) (Or.inl ⟨by rfl, ?_⟩) (by assumption) ?_
    rotate_left
    · (intro w hSw; (try dsimp only at hSw); go_simp; (try with_reducible rfl))
    try simp only [Act.put, List.setIfInBounds_toArray, List.set_cons_zero, List.set_cons_succ]
    refine wpAnyH_take (i := 19) (v := ?_) rfl (by kernel_rfl) (by kernel_rfl) (by kernel_rfl) (fun _ _ _ h => h) (Or.inl ⟨by rfl, ?_⟩) (by assumption) ?_
    rotate_left
    · (intro w hSw; (try dsimp only at hSw); go_simp; (try with_reducible rfl))
    try simp only [Act.put, List.setIfInBounds_toArray, List.set_cons_zero, List.set_cons_succ]
    refine wpAnyH_ready (rs := [1, 15]) (by kernel_rfl) (by simp) ?_
    refine AllReadyH.cons rfl (fun K hK => ?_) ?_
    · (go_simp; refine (HA1.out _).mono ?_; rintro e w' ⟨rfl, hL⟩; (try (have hg := HBD.out _ _ hL; have hcv := HBC.out _ _ hg)); (try (have hg := HBF.out _ _ hL; have hcv := HBC.out _ _ hg)); (try (have hg2 := Blk.below hg0 hL (Blk.lt hg0); have hcv := HBC.out _ _ hg2)); (try (have hg0 := hg)); go_wp2_with fail)
      refine hK.out _ _ ?_ (fun hHeld => ?_)
      · (try dsimp only); (first | assumption | (refine held_drew ?_; assumption) | (refine held_alloc _ ?_; assumption) | (refine held_drew (held_alloc _ ?_); assumption) | (refine held_below ?_ (by assumption); assumption))
      clear hK K
      try simp only [Act.put, List.setIfInBounds_toArray, List.set_cons_zero, List.set_cons_succ]
      refine wpAnyH_ready (rs := [10, 15]) (by kernel_rfl) (by simp) ?_
      refine AllReadyH.cons rfl (fun K hK => ?_) ?_
      · (go_simp; refine (HA2.out _).mono ?_; rintro e w' ⟨rfl, hL⟩; (try (have hg := HBD.out _ _ hL; have hcv := HBC.out _ _ hg)); (try (have hg := HBF.out _ _ hL; have hcv := HBC.out _ _ hg)); (try (have hg2 := Blk.below hg0 hL (Blk.lt hg0); have hcv := HBC.out _ _ hg2)); (try (have hg0 := hg)); go_wp2_with fail)
        refine hK.out _ _ ?_ (fun hHeld => ?_)
        · (try dsimp only); (first | assumption | (refine held_drew ?_; assumption) | (refine held_alloc _ ?_; assumption) | (refine held_drew (held_alloc _ ?_); assumption) | (refine held_below ?_ (by assumption); assumption))
        clear hK K
        try simp only [Act.put, List.setIfInBounds_toArray, List.set_cons_zero, List.set_cons_succ]
        refine wpAnyH_take (i := 11) (v := ?_) rfl (by kernel_rfl) (by kernel_rfl) (by kernel_rfl) (fun _ _ _ h => h) (Or.inl ⟨by rfl, ?_⟩) (by assumption) ?_
        rotate_left
        · (intro w hSw; (try dsimp only at hSw); go_simp; (try with_reducible rfl))
        try simp only [Act.put, List.setIfInBounds_toArray, List.set_cons_zero, List.set_cons_succ]
        refine wpAnyH_ready (rs := [15]) (by kernel_rfl) (by simp) ?_
        refine AllReadyH.cons rfl (fun K hK => ?_) ?_
        · go_simp
          refine hK.out _ _ ?_ (fun hHeld => ?_)
          · (try dsimp only); (first | assumption | (refine held_drew ?_; assumption) | (refine held_alloc _ ?_; assumption) | (refine held_drew (held_alloc _ ?_); assumption) | (refine held_below ?_ (by assumption); assumption))
          clear hK K
          try simp only [Act.put, List.setIfInBounds_toArray, List.set_cons_zero, List.set_cons_succ]
          refine wpAnyH_ready (rs := [16]) (by kernel_rfl) (by simp) ?_
          refine AllReadyH.cons rfl (fun K hK => ?_) ?_
          · go_simp
            refine hK.out _ _ ?_ (fun hHeld => ?_)
            · (try dsimp only); (first | assumption | (refine held_drew ?_; assumption) | (refine held_alloc _ ?_; assumption) | (refine held_drew (held_alloc _ ?_); assumption) | (refine held_below ?_ (by assumption); assumption))
            clear hK K
            try simp only [Act.put, List.setIfInBounds_toArray, List.set_cons_zero, List.set_cons_succ]
            refine wpAnyH_take (i := 17) (v := ?_) rfl (by kernel_rfl) (by kernel_rfl) (by kernel_rfl) (fun _ _ _ h => h) (Or.inl ⟨by rfl, ?_⟩) (by assumption) ?_
            rotate_left
            · (intro w hSw; (try dsimp only at hSw); go_simp; (try with_reducible rfl))
            try simp only [Act.put, List.setIfInBounds_toArray, List.set_cons_zero, List.set_cons_succ]
            refine wpAnyH_take (i := 20) (v := ?_) rfl (by kernel_rfl) (by kernel_rfl) (by kernel_rfl) (fun _ _ _ h => h) (Or.inl ⟨by rfl, ?_⟩) (by assumption) ?_
            rotate_left
            · (intro w hSw; (try dsimp only at hSw); go_simp; (try with_reducible rfl))
            try simp only [Act.put, List.setIfInBounds_toArray, List.set_cons_zero, List.set_cons_succ]
            refine wpAnyH_take (i := 21) (v := ?_) rfl (by kernel_rfl) (by kernel_rfl) (by kernel_rfl) (fun _ _ _ h => h) (Or.inl ⟨by rfl, ?_⟩) (by assumption) ?_
            rotate_left
            · (intro w hSw; (try dsimp only at hSw); go_simp; (try with_reducible rfl))
            try simp only [Act.put, List.setIfInBounds_toArray, List.set_cons_zero, List.set_cons_succ]
            refine wpAnyH_done (by kernel_rfl) ?_ _
            refine NoPanic.normal ?_
            refine gen_post (fun w' => RestP w w') ?_ ?_
            · exact rest_of (by assumption)
            rintro w3 hR
            have HL3 := Lib.hid hR.1; clear hR
            generalize sa ++ sb ++ sc ++ d = tot at *
            go_wp2_with fail
            refine (HS.out _).mono ?_
            rintro e w' ⟨rfl, rfl⟩
            go_wp2_with fail
            refine (HA3.out _).mono ?_
            rintro e w4 ⟨rfl, hL4⟩
            have HL4 := Lib.hid (HL3.out.trans (hL4.mono HL3.out.size)); clear hL4
            go_wp2_with fail
            go_ret2
            exact ⟨by (rw [HF.out]) <;> rfl, HL4.out⟩
          exact AllReadyH.nil
        exact AllReadyH.nil
      refine AllReadyH.cons rfl (fun K hK => ?_) ?_
      · go_simp
        refine hK.out _ _ ?_ (fun hHeld => ?_)
        · (try dsimp only); (first | assumption | (refine held_drew ?_; assumption) | (refine held_alloc _ ?_; assumption) | (refine held_drew (held_alloc _ ?_); assumption) | (refine held_below ?_ (by assumption); assumption))
        clear hK K
        try simp only [Act.put, List.setIfInBounds_toArray, List.set_cons_zero, List.set_cons_succ]
        refine wpAnyH_ready (rs := [10, 16]) (by kernel_rfl) (by simp) ?_
        refine AllReadyH.cons rfl (fun K hK => ?_) ?_
        · (go_simp; refine (HA2.out _).mono ?_; rintro e w' ⟨rfl, hL⟩; (try (have hg := HBD.out _ _ hL; have hcv := HBC.out _ _ hg)); (try (have hg := HBF.out _ _ hL; have hcv := HBC.out _ _ hg)); (try (have hg2 := Blk.below hg0 hL (Blk.lt hg0); have hcv := HBC.out _ _ hg2)); (try (have hg0 := hg)); go_wp2_with fail)
          refine hK.out _ _ ?_ (fun hHeld => ?_)
          · (try dsimp only); (first | assumption | (refine held_drew ?_; assumption) | (refine held_alloc _ ?_; assumption) | (refine held_drew (held_alloc _ ?_); assumption) | (refine held_below ?_ (by assumption); assumption))
          clear hK K
          try simp only [Act.put, List.setIfInBounds_toArray, List.set_cons_zero, List.set_cons_succ]
          refine wpAnyH_take (i := 11) (v := ?_) rfl (by kernel_rfl) (by kernel_rfl) (by kernel_rfl) (fun _ _ _ h => h) (Or.inl ⟨by rfl, ?_⟩) (by assumption) ?_
          rotate_left
          · (intro w hSw; (try dsimp only at hSw); go_simp; (try with_reducible rfl))
          try simp only [Act.put, List.setIfInBounds_toArray, List.set_cons_zero, List.set_cons_succ]
          refine wpAnyH_ready (rs := [16]) (by kernel_rfl) (by simp) ?_
          refine AllReadyH.cons rfl (fun K hK => ?_) ?_
          · go_simp
            refine hK.out _ _ ?_ (fun hHeld => ?_)
            · (try dsimp only); (first | assumption | (refine held_drew ?_; assumption) | (refine held_alloc _ ?_; assumption) | (refine held_drew (held_alloc _ ?_); assumption) | (refine held_below ?_ (by assumption); assumption))
            clear hK K
            try simp only [Act.put, List.setIfInBounds_toArray, List.set_cons_zero, List.set_cons_succ]
            refine wpAnyH_take (i := 17) (v := ?_) rfl (by kernel_rfl) (by kernel_rfl) (by kernel_rfl) (fun _ _ _ h => h) (Or.inl ⟨by rfl, ?_⟩) (by assumption) ?_
            rotate_left
            · (intro w hSw; (try dsimp only at hSw); go_simp; (try with_reducible rfl))
            try simp only [Act.put, List.setIfInBounds_toArray, List.set_cons_zero, List.set_cons_succ]
            refine wpAnyH_take (i := 20) (v := ?_) rfl (by kernel_rfl) (by kernel_rfl) (by kernel_rfl) (fun _ _ _ h => h) (Or.inl ⟨by rfl, ?_⟩) (by assumption) ?_
            rotate_left
            · (intro w hSw; (try dsimp only at hSw); go_simp; (try with_reducible rfl))
            try simp only [Act.put, List.setIfInBounds_toArray, List.set_cons_zero, List.set_cons_succ]
            refine wpAnyH_take (i := 21) (v := ?_) rfl (by kernel_rfl) (by kernel_rfl) (by kernel_rfl) (fun _ _ _ h => h) (Or.inl ⟨by rfl, ?_⟩) (by assumption) ?_
            rotate_left
            · (intro w hSw; (try dsimp only at hSw); go_simp; (try with_reducible rfl))
            try simp only [Act.put, List.setIfInBounds_toArray, List.set_cons_zero, List.set_cons_succ]
            refine wpAnyH_done (by kernel_rfl) ?_ _
            refine NoPanic.normal ?_
            refine gen_post (fun w' => RestP w w') ?_ ?_
            · exact rest_of (by assumption)
            rintro w3 hR
            have HL3 := Lib.hid hR.1; clear hR
            generalize sa ++ sb ++ sc ++ d = tot at *
            go_wp2_with fail
            refine (HS.out _).mono ?_
            rintro e w' ⟨rfl, rfl⟩
            go_wp2_with fail
            refine (HA3.out _).mono ?_
            rintro e w4 ⟨rfl, hL4⟩
            have HL4 := Lib.hid (HL3.out.trans (hL4.mono HL3.out.size)); clear hL4
            go_wp2_with fail
            go_ret2
            exact ⟨by (rw [HF.out]) <;> rfl, HL4.out⟩
          exact AllReadyH.nil
        refine AllReadyH.cons rfl (fun K hK => ?_) ?_
        · go_simp
          refine hK.out _ _ ?_ (fun hHeld => ?_)
          · (try dsimp only); (first | assumption | (refine held_drew ?_; assumption) | (refine held_alloc _ ?_; assumption) | (refine held_drew (held_alloc _ ?_); assumption) | (refine held_below ?_ (by assumption); assumption))
          clear hK K
          try simp only [Act.put, List.setIfInBounds_toArray, List.set_cons_zero, List.set_cons_succ]
          refine wpAnyH_ready (rs := [10]) (by kernel_rfl) (by simp) ?_
          refine AllReadyH.cons rfl (fun K hK => ?_) ?_
          · (go_simp; refine (HA2.out _).mono ?_; rintro e w' ⟨rfl, hL⟩; (try (have hg := HBD.out _ _ hL; have hcv := HBC.out _ _ hg)); (try (have hg := HBF.out _ _ hL; have hcv := HBC.out _ _ hg)); (try (have hg2 := Blk.below hg0 hL (Blk.lt hg0); have hcv := HBC.out _ _ hg2)); (try (have hg0 := hg)); go_wp2_with fail)
            refine hK.out _ _ ?_ (fun hHeld => ?_)
            · (try dsimp only); (first | assumption | (refine held_drew ?_; assumption) | (refine held_alloc _ ?_; assumption) | (refine held_drew (held_alloc _ ?_); assumption) | (refine held_below ?_ (by assumption); assumption))
            clear hK K
            try simp only [Act.put, List.setIfInBounds_toArray, List.set_cons_zero, List.set_cons_succ]
            refine wpAnyH_take (i := 11) (v := ?_) rfl (by kernel_rfl) (by kernel_rfl) (by kernel_rfl) (fun _ _ _ h => h) (Or.inl ⟨by rfl, ?_⟩) (by assumption) ?_
            rotate_left
            · (intro w hSw; (try dsimp only at hSw); go_simp; (try with_reducible rfl))
            try simp only [Act.put, List.setIfInBounds_toArray, List.set_cons_zero, List.set_cons_succ]
            refine wpAnyH_take (i := 17) (v := ?_) rfl (by kernel_rfl) (by kernel_rfl) (by kernel_rfl) (fun _ _ _ h => h) (Or.inl ⟨by rfl, ?_⟩) (by assumption) ?_
            rotate_left
            · (intro w hSw; (try dsimp only at hSw); go_simp; (try with_reducible rfl))
            try simp only [Act.put, List.setIfInBounds_toArray, List.set_cons_zero, List.set_cons_succ]
            refine wpAnyH_take (i := 20) (v := ?_) rfl (by kernel_rfl) (by kernel_rfl) (by kernel_rfl) (fun _ _ _ h => h) (Or.inl ⟨by rfl, ?_⟩) (by assumption) ?_
            rotate_left
            · (intro w hSw; (try dsimp only at hSw); go_simp; (try with_reducible rfl))
            try simp only [Act.put, List.setIfInBounds_toArray, List.set_cons_zero, List.set_cons_succ]
            refine wpAnyH_take (i := 21) (v := ?_) rfl (by kernel_rfl) (by kernel_rfl) (by kernel_rfl) (fun _ _ _ h => h) (Or.inl ⟨by rfl, ?_⟩) (by assumption) ?_
            rotate_left
            · (intro w hSw; (try dsimp only at hSw); go_simp; (try with_reducible rfl))
            try simp only [Act.put, List.setIfInBounds_toArray, List.set_cons_zero, List.set_cons_succ]
            refine wpAnyH_done (by kernel_rfl) ?_ _
            refine NoPanic.normal ?_
            refine gen_post (fun w' => RestP w w') ?_ ?_
            · exact rest_of (by assumption)
            rintro w3 hR
            have HL3 := Lib.hid hR.1; clear hR
            generalize sa ++ sb ++ sc ++ d = tot at *
            go_wp2_with fail
            refine (HS.out _).mono ?_
            rintro e w' ⟨rfl, rfl⟩
            go_wp2_with fail
            refine (HA3.out _).mono ?_
            rintro e w4 ⟨rfl, hL4⟩
            have HL4 := Lib.hid (HL3.out.trans (hL4.mono HL3.out.size)); clear hL4
            go_wp2_with fail
            go_ret2
            exact ⟨by (rw [HF.out]) <;> rfl, HL4.out⟩
          exact AllReadyH.nil
        exact AllReadyH.nil
      exact AllReadyH.nil
    refine AllReadyH.cons rfl (fun K hK => ?_) ?_
    · go_simp
      refine hK.out _ _ ?_ (fun hHeld => ?_)
      · (try dsimp only); (first | assumption | (refine held_drew ?_; assumption) | (refine held_alloc _ ?_; assumption) | (refine held_drew (held_alloc _ ?_); assumption) | (refine held_below ?_ (by assumption); assumption))
      clear hK K
      try simp only [Act.put, List.setIfInBounds_toArray, List.set_cons_zero, List.set_cons_succ]
      refine wpAnyH_ready (rs := [1, 16]) (by kernel_rfl) (by simp) ?_
      refine AllReadyH.cons rfl (fun K hK => ?_) ?_
      · (go_simp; refine (HA1.out _).mono ?_; rintro e w' ⟨rfl, hL⟩; (try (have hg := HBD.out _ _ hL; have hcv := HBC.out _ _ hg)); (try (have hg := HBF.out _ _ hL; have hcv := HBC.out _ _ hg)); (try (have hg2 := Blk.below hg0 hL (Blk.lt hg0); have hcv := HBC.out _ _ hg2)); (try (have hg0 := hg)); go_wp2_with fail)
        refine hK.out _ _ ?_ (fun hHeld => ?_)
        · (try dsimp only); (first | assumption | (refine held_drew ?_; assumption) | (refine held_alloc _ ?_; assumption) | (refine held_drew (held_alloc _ ?_); assumption) | (refine held_below ?_ (by assumption); assumption))
        clear hK K
        try simp only [Act.put, List.setIfInBounds_toArray, List.set_cons_zero, List.set_cons_succ]
        refine wpAnyH_ready (rs := [10, 16]) (by kernel_rfl) (by simp) ?_
        refine AllReadyH.cons rfl (fun K hK => ?_) ?_
        · (go_simp; refine (HA2.out _).mono ?_; rintro e w' ⟨rfl, hL⟩; (try (have hg := HBD.out _ _ hL; have hcv := HBC.out _ _ hg)); (try (have hg := HBF.out _ _ hL; have hcv := HBC.out _ _ hg)); (try (have hg2 := Blk.below hg0 hL (Blk.lt hg0); have hcv := HBC.out _ _ hg2)); (try (have hg0 := hg)); go_wp2_with fail)
          refine hK.out _ _ ?_ (fun hHeld => ?_)
          · (try dsimp only); (first | assumption | (refine held_drew ?_; assumption) | (refine held_alloc _ ?_; assumption) | (refine held_drew (held_alloc _ ?_); assumption) | (refine held_below ?_ (by assumption); assumption))
          clear hK K
          try simp only [Act.put, List.setIfInBounds_toArray, List.set_cons_zero, List.set_cons_succ]
          refine wpAnyH_take (i := 11) (v := ?_) rfl (by kernel_rfl) (by kernel_rfl) (by kernel_rfl) (fun _ _ _ h => h) (Or.inl ⟨by rfl, ?_⟩) (by assumption) ?_
          rotate_left
          · (intro w hSw; (try dsimp only at hSw); go_simp; (try with_reducible rfl))
          try simp only [Act.put, List.setIfInBounds_toArray, List.set_cons_zero, List.set_cons_succ]
          refine wpAnyH_ready (rs := [16]) (by kernel_rfl) (by simp) ?_
          refine AllReadyH.cons rfl (fun K hK => ?_) ?_
          · go_simp
            refine hK.out _ _ ?_ (fun hHeld => ?_)
            · (try dsimp only); (first | assumption | (refine held_drew ?_; assumption) | (refine held_alloc _ ?_; assumption) | (refine held_drew (held_alloc _ ?_); assumption) | (refine held_below ?_ (by assumption); assumption))
            clear hK K
            try simp only [Act.put, List.setIfInBounds_toArray, List.set_cons_zero, List.set_cons_succ]
            refine wpAnyH_take (i := 17) (v := ?_) rfl (by kernel_rfl) (by kernel_rfl) (by kernel_rfl) (fun _ _ _ h => h) (Or.inl ⟨by rfl, ?_⟩) (by assumption) ?_
            rotate_left
            · (intro w hSw; (try dsimp only at hSw); go_simp; (try with_reducible rfl))
            try simp only [Act.put, List.setIfInBounds_toArray, List.set_cons_zero, List.set_cons_succ]
            refine wpAnyH_take (i := 20) (v := ?_) rfl (by kernel_rfl) (by kernel_rfl) (by kernel_rfl) (fun _ _ _ h => h) (Or.inl ⟨by rfl, ?_⟩) (by assumption) ?_
            rotate_left
            · (intro w hSw; (try dsimp only at hSw); go_simp; (try with_reducible rfl))
            try simp only [Act.put, List.setIfInBounds_toArray, List.set_cons_zero, List.set_cons_succ]
            refine wpAnyH_take (i := 21) (v := ?_) rfl (by kernel_rfl) (by kernel_rfl) (by kernel_rfl) (fun _ _ _ h => h) (Or.inl ⟨by rfl, ?_⟩) (by assumption) ?_
            rotate_left
            · (intro w hSw; (try dsimp only at hSw); go_simp; (try with_reducible rfl))
            try simp only [Act.put, List.setIfInBounds_toArray, List.set_cons_zero, List.set_cons_succ]
            refine wpAnyH_done (by kernel_rfl) ?_ _
            refine NoPanic.normal ?_
            refine gen_post (fun w' => RestP w w') ?_ ?_
            · exact rest_of (by assumption)
            rintro w3 hR
            have HL3 := Lib.hid hR.1; clear hR
            generalize sa ++ sb ++ sc ++ d = tot at *
            go_wp2_with fail
            refine (HS.out _).mono ?_
            rintro e w' ⟨rfl, rfl⟩
            go_wp2_with fail
            refine (HA3.out _).mono ?_
            rintro e w4 ⟨rfl, hL4⟩
            have HL4 := Lib.hid (HL3.out.trans (hL4.mono HL3.out.size)); clear hL4
            go_wp2_with fail
            go_ret2
            exact ⟨by (rw [HF.out]) <;> rfl, HL4.out⟩
          exact AllReadyH.nil
        refine AllReadyH.cons rfl (fun K hK => ?_) ?_
        · go_simp
          refine hK.out _ _ ?_ (fun hHeld => ?_)
          · (try dsimp only); (first | assumption | (refine held_drew ?_; assumption) | (refine held_alloc _ ?_; assumption) | (refine held_drew (held_alloc _ ?_); assumption) | (refine held_below ?_ (by assumption); assumption))
          clear hK K
          try simp only [Act.put, List.setIfInBounds_toArray, List.set_cons_zero, List.set_cons_succ]
          refine wpAnyH_ready (rs := [10]) (by kernel_rfl) (by simp) ?_
          refine AllReadyH.cons rfl (fun K hK => ?_) ?_
          · (go_simp; refine (HA2.out _).mono ?_; rintro e w' ⟨rfl, hL⟩; (try (have hg := HBD.out _ _ hL; have hcv := HBC.out _ _ hg)); (try (have hg := HBF.out _ _ hL; have hcv := HBC.out _ _ hg)); (try (have hg2 := Blk.below hg0 hL (Blk.lt hg0); have hcv := HBC.out _ _ hg2)); (try (have hg0 := hg)); go_wp2_with fail)
            refine hK.out _ _ ?_ (fun hHeld => ?_)
            · (try dsimp only); (first | assumption | (refine held_drew ?_; assumption) | (refine held_alloc _ ?_; assumption) | (refine held_drew (held_alloc _ ?_); assumption) | (refine held_below ?_ (by assumption); assumption))
            clear hK K
            try simp only [Act.put, List.setIfInBounds_toArray, List.set_cons_zero, List.set_cons_succ]
            refine wpAnyH_take (i := 11) (v := ?_) rfl (by kernel_rfl) (by kernel_rfl) (by kernel_rfl) (fun _ _ _ h => h) (Or.inl ⟨by rfl, ?_⟩) (by assumption) ?_
            rotate_left
            · (intro w hSw; (try dsimp only at hSw); go_simp; (try with_reducible rfl))
            try simp only [Act.put, List.setIfInBounds_toArray, List.set_cons_zero, List.set_cons_succ]
            refine wpAnyH_take (i := 17) (v := ?_) rfl (by kernel_rfl) (by kernel_rfl) (by kernel_rfl) (fun _ _ _ h => h) (Or.inl ⟨by rfl, ?_⟩) (by assumption) ?_
            rotate_left
            · (intro w hSw; (try dsimp only at hSw); go_simp; (try with_reducible rfl))
            try simp only [Act.put, List.setIfInBounds_toArray, List.set_cons_zero, List.set_cons_succ]
            refine wpAnyH_take (i := 20) (v := ?_) rfl (by kernel_rfl) (by kernel_rfl) (by kernel_rfl) (fun _ _ _ h => h) (Or.inl ⟨by rfl, ?_⟩) (by assumption) ?_
            rotate_left
            · (intro w hSw; (try dsimp only at hSw); go_simp; (try with_reducible rfl))
            try simp only [Act.put, List.setIfInBounds_toArray, List.set_cons_zero, List.set_cons_succ]
            refine wpAnyH_take (i := 21) (v := ?_) rfl (by kernel_rfl) (by kernel_rfl) (by kernel_rfl) (fun _ _ _ h => h) (Or.inl ⟨by rfl, ?_⟩) (by assumption) ?_
            rotate_left
            · (intro w hSw; (try dsimp only at hSw); go_simp; (try with_reducible rfl))
            try simp only [Act.put, List.setIfInBounds_toArray, List.set_cons_zero, List.set_cons_succ]
            refine wpAnyH_done (by kernel_rfl) ?_ _
            refine NoPanic.normal ?_
            refine gen_post (fun w' => RestP w w') ?_ ?_
            · exact rest_of (by assumption)
            rintro w3 hR
            have HL3 := Lib.hid hR.1; clear hR
            generalize sa ++ sb ++ sc ++ d = tot at *
            go_wp2_with fail
            refine (HS.out _).mono ?_
            rintro e w' ⟨rfl, rfl⟩
            go_wp2_with fail
            refine (HA3.out _).mono ?_
            rintro e w4 ⟨rfl, hL4⟩
            have HL4 := Lib.hid (HL3.out.trans (hL4.mono HL3.out.size)); clear hL4
            go_wp2_with fail
            go_ret2
            exact ⟨by (rw [HF.out]) <;> rfl, HL4.out⟩
          exact AllReadyH.nil
        exact AllReadyH.nil
      refine AllReadyH.cons rfl (fun K hK => ?_) ?_
      · go_simp
        refine hK.out _ _ ?_ (fun hHeld => ?_)
        · (try dsimp only); (first | assumption | (refine held_drew ?_; assumption) | (refine held_alloc _ ?_; assumption) | (refine held_drew (held_alloc _ ?_); assumption) | (refine held_below ?_ (by assumption); assumption))
        clear hK K
        try simp only [Act.put, List.setIfInBounds_toArray, List.set_cons_zero, List.set_cons_succ]
        refine wpAnyH_ready (rs := [1]) (by kernel_rfl) (by simp) ?_
        refine AllReadyH.cons rfl (fun K hK => ?_) ?_
        · (go_simp; refine (HA1.out _).mono ?_; rintro e w' ⟨rfl, hL⟩; (try (have hg := HBD.out _ _ hL; have hcv := HBC.out _ _ hg)); (try (have hg := HBF.out _ _ hL; have hcv := HBC.out _ _ hg)); (try (have hg2 := Blk.below hg0 hL (Blk.lt hg0); have hcv := HBC.out _ _ hg2)); (try (have hg0 := hg)); go_wp2_with fail)
          refine hK.out _ _ ?_ (fun hHeld => ?_)
          · (try dsimp only); (first | assumption | (refine held_drew ?_; assumption) | (refine held_alloc _ ?_; assumption) | (refine held_drew (held_alloc _ ?_); assumption) | (refine held_below ?_ (by assumption); assumption))
          clear hK K
          try simp only [Act.put, List.setIfInBounds_toArray, List.set_cons_zero, List.set_cons_succ]
          refine wpAnyH_ready (rs := [10]) (by kernel_rfl) (by simp) ?_
          refine AllReadyH.cons rfl (fun K hK => ?_) ?_
          · (go_simp; refine (HA2.out _).mono ?_; rintro e w' ⟨rfl, hL⟩; (try (have hg := HBD.out _ _ hL; have hcv := HBC.out _ _ hg)); (try (have hg := HBF.out _ _ hL; have hcv := HBC.out _ _ hg)); (try (have hg2 := Blk.below hg0 hL (Blk.lt hg0); have hcv := HBC.out _ _ hg2)); (try (have hg0 := hg)); go_wp2_with fail)
            refine hK.out _ _ ?_ (fun hHeld => ?_)
            · (try dsimp only); (first | assumption | (refine held_drew ?_; assumption) | (refine held_alloc _ ?_; assumption) | (refine held_drew (held_alloc _ ?_); assumption) | (refine held_below ?_ (by assumption); assumption))
            clear hK K
            try simp only [Act.put, List.setIfInBounds_toArray, List.set_cons_zero, List.set_cons_succ]
            refine wpAnyH_take (i := 11) (v := ?_) rfl (by kernel_rfl) (by kernel_rfl) (by kernel_rfl) (fun _ _ _ h => h) (Or.inl ⟨by rfl, ?_⟩) (by assumption) ?_
            rotate_left
            · (intro w hSw; (try dsimp only at hSw); go_simp; (try with_reducible rfl))
            try simp only [Act.put, List.setIfInBounds_toArray, List.set_cons_zero, List.set_cons_succ]
            refine wpAnyH_take (i := 17) (v := ?_) rfl (by kernel_rfl) (by kernel_rfl) (by kernel_rfl) (fun _ _ _ h => h) (Or.inl ⟨by rfl, ?_⟩) (by assumption) ?_
            rotate_left
            · (intro w hSw; (try dsimp only at hSw); go_simp; (try with_reducible rfl))
            try simp only [Act.put, List.setIfInBounds_toArray, List.set_cons_zero, List.set_cons_succ]
            refine wpAnyH_take (i := 20) (v := ?_) rfl (by kernel_rfl) (by kernel_rfl) (by kernel_rfl) (fun _ _ _ h => h) (Or.inl ⟨by rfl, ?_⟩) (by assumption) ?_
            rotate_left
            · (intro w hSw; (try dsimp only at hSw); go_simp; (try with_reducible rfl))
            try simp only [Act.put, List.setIfInBounds_toArray, List.set_cons_zero, List.set_cons_succ]
            refine wpAnyH_take (i := 21) (v := ?_) rfl (by kernel_rfl) (by kernel_rfl) (by kernel_rfl) (fun _ _ _ h => h) (Or.inl ⟨by rfl, ?_⟩) (by assumption) ?_
            rotate_left
            · (intro w hSw; (try dsimp only at hSw); go_simp; (try with_reducible rfl))
            try simp only [Act.put, List.setIfInBounds_toArray, List.set_cons_zero, List.set_cons_succ]
            refine wpAnyH_done (by kernel_rfl) ?_ _
            refine NoPanic.normal ?_
            refine gen_post (fun w' => RestP w w') ?_ ?_
            · exact rest_of (by assumption)
            rintro w3 hR
            have HL3 := Lib.hid hR.1; clear hR
            generalize sa ++ sb ++ sc ++ d = tot at *
            go_wp2_with fail
            refine (HS.out _).mono ?_
            rintro e w' ⟨rfl, rfl⟩
            go_wp2_with fail
            refine (HA3.out _).mono ?_
            rintro e w4 ⟨rfl, hL4⟩
            have HL4 := Lib.hid (HL3.out.trans (hL4.mono HL3.out.size)); clear hL4
            go_wp2_with fail
            go_ret2
            exact ⟨by (rw [HF.out]) <;> rfl, HL4.out⟩
          exact AllReadyH.nil
        exact AllReadyH.nil
      exact AllReadyH.nil
    exact AllReadyH.nil
end Go.Proofs.Ytebgehmgjafblaa
