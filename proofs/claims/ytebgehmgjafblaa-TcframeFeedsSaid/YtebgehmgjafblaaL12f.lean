/- What is proved here: the walk of the law about fed segments. -/
import Derived.Test.YtebgehmgjafblaaH12
import Derived.Test.YtebgehmgjafblaaA9
import Derived.Test.YtebgehmgjafblaaLg
set_option linter.unusedVariables false
set_option linter.unusedSimpArgs false
namespace Go.Proofs.Ytebgehmgjafblaa
open Go.RowKit
theorem AsmAt.keep {w w' : World} {base a R : Nat} {op : Bool} {xs : List UInt8} {cs : List Value} {t : TypeId} (h : AsmAt w base a op xs) (k : Keep [R] w w') (hB : Blk w R cs t) (ht : ¬ t = 5) (hne : a ≠ R) : AsmAt w' base a op xs := by
  obtain ⟨h1, v, h2, h3⟩ := h
  refine ⟨h1, v, h2.keep k (by simpa using hne), row_keep h3 k ?_⟩
  intro g hg
  have := row_ne2 h3 hB ht g hg
  simpa using this
set_option maxHeartbeats 8000000 in
set_option maxRecDepth 100000 in
theorem TcframeFeeds_any (a : Option Addr) (n cap : Nat) (S : Nat → ByteArray) (w : World) (hn : n ≤ 9223372036854775807) (hR : RowAt w a n (fun i => .string (S i))) :
    Calls Try.prog 6 #[.slice a n cap] w fun e w' => e = .returned (.bool true) ∧ Below w.heap.size w w' := by
  have HR := Lib.hid hR
  have hlong := fun w1 => Long_any a n cap S 30000 w1 (by omega) (by omega) hn
  have HLONG := Lib.hid hlong
  clear hlong hR
  go_enter Try.func6, Try.ntmps6
  go_wp2_with fail
  refine (shown12_any _).mono ?_
  rintro e w1 ⟨rfl, hL1⟩
  have HR1 := Lib.hid (HR.out.below hL1 (Nat.le_refl _))
  have HL1 := Lib.hid hL1; clear hL1
  go_wp2_with fail
  refine (HLONG.out w1 HR1.out).mono ?_
  rintro e w2 ⟨b, rfl, hL2⟩
  have HR2 := Lib.hid (HR1.out.below hL2 (Nat.le_refl _))
  have HL2 := Lib.hid (HL1.out.trans (hL2.mono HL1.out.size)); clear hL2 HR1 HL1 HLONG
  cases b
  case true =>
    go_wp2_with fail
    go_ret
    exact ⟨rfl, HL2.out⟩
  case false =>
    go_wp2_with fail
    refine (NewA_ok _).mono ?_
    rintro e w3 ⟨rfl, hw3⟩
    have hA3 : AsmAt w3 w2.heap.size w2.heap.size false [] := by rw [hw3]; exact new_asm w2
    have hL3 : Below w2.heap.size w2 w3 := by rw [hw3]; exact (Below.refl _ _).alloc (Nat.le_refl _) _
    clear hw3
    have HR3 := Lib.hid (HR2.out.below hL3 (Nat.le_refl _))
    have HL3 := Lib.hid (HL2.out.trans (hL3.mono HL2.out.size))
    obtain ⟨A, hA⟩ : ∃ A, A = w2.heap.size := ⟨_, rfl⟩
    have hA0 : w.heap.size ≤ A := by rw [hA]; exact HL2.out.size
    have hA1 : A < w3.heap.size := by rw [hA]; obtain ⟨_, v, h, _⟩ := hA3; exact h.lt
    rw [← hA] at hA3 ⊢
    have HA3 := Lib.hid hA3
    clear hA3 hL3 HL2 HR2 hA
    go_wp2_with fail
    obtain ⟨R, hR⟩ : ∃ R, R = w3.heap.size := ⟨_, rfl⟩
    have hA4 := Lib.hid ((HA3.out.alloc (Obj.cells #[.bool false, .string ⟨#[]⟩] 53)).alloc (Obj.cells #[.bool false, .bool false, .slice none 0 0] 55))
    have hR4 := Lib.hid ((Blk.new w3 [.bool false, .string ⟨#[]⟩] 53).alloc (Obj.cells #[.bool false, .bool false, .slice none 0 0] 55))
    have hZ4 := Lib.hid (Blk.new_at (w3.alloc (Obj.cells #[.bool false, .string ⟨#[]⟩] 53)) [.bool false, .bool false, .slice none 0 0] 55 (w3.heap.size + 1) (by simp))
    have hL4 := Lib.hid ((HL3.out.alloc HL3.out.size (Obj.cells #[.bool false, .string ⟨#[]⟩] 53)).alloc (Nat.le_trans HL3.out.size (by rw [World.size_alloc]; omega)) (Obj.cells #[.bool false, .bool false, .slice none 0 0] 55))
    rw [← hR] at hR4 hZ4 hA1 ⊢
    clear hR
    go_loopg [7] n (fun m i wr => ∃ k : Nat, ∃ op : Bool, ∃ xs : List UInt8, ∃ t : ByteArray, k ≤ n ∧ m = n - k ∧ i = .int .i64 k ∧ Below w.heap.size w wr ∧ AsmAt wr A A op xs ∧ xs.length ≤ 1030 ∧ t.size ≤ 2000 ∧ (op = true → t.data.toList = xs) ∧ Blk wr R [.bool op, .string t] 53 ∧ Blk wr (R + 1) [.bool false, .bool false, .slice none 0 0] 55)
    case atStart => exact ⟨0, false, [], ⟨#[]⟩, by omega, by omega, rfl, hL4.out, hA4.out, by simp, by decide, (fun h => by cases h), hR4.out, hZ4.out⟩
    case round =>
      obtain ⟨k, op, xs, t, hk, hm, rfl, hL, hAs, hx, ht, hrel2, hBR, hBZ⟩ := hrel
      clear hA4 hR4 hZ4 hL4
      by_cases hlt : k < n
      · obtain ⟨b, off, rfl, hb, c1⟩ := HR.out k hlt
        dsimp only at c1
        have c2 := (hL.cell (p := ⟨b, off + k, none⟩) hb).trans c1
        obtain ⟨s, hs⟩ : ∃ s, s = S k := ⟨_, rfl⟩
        rw [← hs] at c1 c2
        have hAwr : A ≤ wr.heap.size := by have := hBR.lt; omega
        have hfd := Feed_any s A A op xs wr hx hAwr hAs
        have hrf := fun W => rFeed_any s t R op xs W ht hx hrel2
        have hlen := feedF_len op xs s.data.toList hx
        obtain ⟨⟨⟨p1, p2, p3⟩, e1, op2, xs2⟩, hf⟩ : ∃ f, f = feedF op xs s.data.toList := ⟨_, rfl⟩
        rw [← hf] at hfd hrf hlen
        dsimp only [pv, pieceV] at hfd hrf hlen
        obtain ⟨ps, hps⟩ : ∃ ps : ByteArray, ps = ⟨p2.toArray⟩ := ⟨_, rfl⟩
        rw [← hps] at hfd hrf
        have hni := Feed_nil s
        have hun := Feed_unmade s (R + 1)
        dsimp only [pieceV] at hni hun
        have HNI := Lib.hid hni; have HUN := Lib.hid hun; clear hni hun
        have HFD := Lib.hid hfd; have HRF := Lib.hid hrf
        have HL := Lib.hid hL; have HBR := Lib.hid hBR; have HBZ := Lib.hid hBZ; have HC := Lib.hid c1
        clear hfd hrf hL hBR hBZ hs hf hps c1 hAs hrel2
        have hnR : R ≠ A := by omega
        have hnZ : R + 1 ≠ A := by omega
        have hkk : (0 : Int) ≤ k := by omega
        have hkn : (k : Int) < n := by omega
        go_wp2_with fail
        refine HFD.out.mono ?_
        rintro e w5 ⟨rfl, hL5, hP5, hA5⟩
        have HR5 := Lib.hid (hP5 _ _ _ hnR (by decide) HBR.out)
        have HZ5 := Lib.hid (hP5 _ _ _ hnZ (by decide) HBZ.out)
        have HL5 := Lib.hid (HL.out.trans (hL5.mono hA0))
        have HA5 := Lib.hid hA5
        clear hL5 hP5 hA5 HL HBR HBZ HFD c2
        have HR6 := Lib.hid (HR5.out.alloc (Obj.cells #[.bool p1, .string ps, .int .i64 0, .bool p3] 57))
        have HZ6 := Lib.hid (HZ5.out.alloc (Obj.cells #[.bool p1, .string ps, .int .i64 0, .bool p3] 57))
        have HA6 := Lib.hid (HA5.out.alloc (Obj.cells #[.bool p1, .string ps, .int .i64 0, .bool p3] 57))
        have HL6 := Lib.hid (HL5.out.alloc HL5.out.size (Obj.cells #[.bool p1, .string ps, .int .i64 0, .bool p3] 57))
        have HP6 := Lib.hid (Blk.new w5 [.bool p1, .string ps, .int .i64 0, .bool p3] 57)
        have c3 := (HL6.out.cell (p := ⟨b, off + k, none⟩) hb).trans HC.out
        have c4 := (HL5.out.cell (p := ⟨b, off + k, none⟩) hb).trans HC.out
        have hwl5 := HL5.out.size
        have hRw5 := HR5.out.lt
        clear HR5 HZ5 HA5 HL5
        go_wp2_with fail
        refine (HRF.out _ HR6.out).mono ?_
        rintro e w7 ⟨rfl, hK7, t2, ht2, hrel2, hR7⟩
        have HZ7 := Lib.hid (HZ6.out.keep hK7 (by simp))
        have HA7 := Lib.hid (HA6.out.keep hK7 HR6.out (by decide) (Ne.symm hnR))
        have hRl := HR6.out.lt
        have hPne : w5.heap.size ≠ R := Ne.symm (Nat.ne_of_lt hRw5)
        have HP7 := Lib.hid (HP6.out.keep hK7 (by simpa using hPne))
        have HL7 := Lib.hid (HL6.out.trans (hK7.toBelowAt HL6.out.size (by simp; omega)))
        have HR7 := Lib.hid hR7
        clear hK7 hR7 HR6 HZ6 HA6 HP6 HL6 c3 c4 HRF
        have HR8 := Lib.hid (HR7.out.alloc (Obj.cells #[.bool p1, .string ps, .int .i64 0, .bool p3] 57))
        have HZ8 := Lib.hid (HZ7.out.alloc (Obj.cells #[.bool p1, .string ps, .int .i64 0, .bool p3] 57))
        have HA8 := Lib.hid (HA7.out.alloc (Obj.cells #[.bool p1, .string ps, .int .i64 0, .bool p3] 57))
        have HP8 := Lib.hid (HP7.out.alloc (Obj.cells #[.bool p1, .string ps, .int .i64 0, .bool p3] 57))
        have HL8 := Lib.hid (HL7.out.alloc HL7.out.size (Obj.cells #[.bool p1, .string ps, .int .i64 0, .bool p3] 57))
        have HQ8 := Lib.hid (Blk.new w7 [.bool p1, .string ps, .int .i64 0, .bool p3] 57)
        have c3 := (HL8.out.cell (p := ⟨b, off + k, none⟩) hb).trans HC.out
        have c4 := (HL7.out.cell (p := ⟨b, off + k, none⟩) hb).trans HC.out
        clear HR7 HZ7 HA7 HP7 HL7
        go_wp2_with fail
        refine (HNI.out _).mono ?_
        rintro e w9 ⟨rfl, hL9⟩
        have HR9 := Lib.hid (HR8.out.below hL9 HR8.out.lt)
        have HZ9 := Lib.hid (HZ8.out.below hL9 HZ8.out.lt)
        have HP9 := Lib.hid (HP8.out.below hL9 HP8.out.lt)
        have HQ9 := Lib.hid (HQ8.out.below hL9 HQ8.out.lt)
        have HA9 := Lib.hid (asm_below HA8.out hL9 (Nat.le_refl _))
        have HL9 := Lib.hid (HL8.out.trans (hL9.mono HL8.out.size))
        clear hL9 c3 c4 HL8 HA8 HR8 HZ8 HP8 HQ8
        have HR10 := Lib.hid (HR9.out.alloc (Obj.cells #[.bool false, .string ⟨#[]⟩, .int .i64 0, .bool false] 57))
        have HZ10 := Lib.hid (HZ9.out.alloc (Obj.cells #[.bool false, .string ⟨#[]⟩, .int .i64 0, .bool false] 57))
        have HA10 := Lib.hid (HA9.out.alloc (Obj.cells #[.bool false, .string ⟨#[]⟩, .int .i64 0, .bool false] 57))
        have HP10 := Lib.hid (HP9.out.alloc (Obj.cells #[.bool false, .string ⟨#[]⟩, .int .i64 0, .bool false] 57))
        have HQ10 := Lib.hid (HQ9.out.alloc (Obj.cells #[.bool false, .string ⟨#[]⟩, .int .i64 0, .bool false] 57))
        have HL10 := Lib.hid (HL9.out.alloc HL9.out.size (Obj.cells #[.bool false, .string ⟨#[]⟩, .int .i64 0, .bool false] 57))
        have HU10 := Lib.hid (Blk.new w9 [.bool false, .string ⟨#[]⟩, .int .i64 0, .bool false] 57)
        have c3 := (HL10.out.cell (p := ⟨b, off + k, none⟩) hb).trans HC.out
        have c4 := (HL9.out.cell (p := ⟨b, off + k, none⟩) hb).trans HC.out
        have y0 := HZ10.out.cell 0
        have z0 := HZ9.out.cell 0
        simp only [List.getElem?_cons_zero] at y0 z0
        clear HR9 HZ9 HA9 HP9 HQ9 HL9
        go_wp2_with fail
        refine (HUN.out _ HZ10.out).mono ?_
        rintro e w11 ⟨rfl, hL11⟩
        have HR11 := Lib.hid (HR10.out.below hL11 HR10.out.lt)
        have HZ11 := Lib.hid (HZ10.out.below hL11 HZ10.out.lt)
        have HP11 := Lib.hid (HP10.out.below hL11 HP10.out.lt)
        have HQ11 := Lib.hid (HQ10.out.below hL11 HQ10.out.lt)
        have HU11 := Lib.hid (HU10.out.below hL11 HU10.out.lt)
        have HA11 := Lib.hid (asm_below HA10.out hL11 (Nat.le_refl _))
        have HL11 := Lib.hid (HL10.out.trans (hL11.mono HL10.out.size))
        clear y0 z0 hL11 c3 c4 HL10 HA10 HR10 HZ10 HP10 HQ10 HU10
        have HR12 := Lib.hid (HR11.out.alloc (Obj.cells #[.bool false, .string ⟨#[]⟩, .int .i64 0, .bool false] 57))
        have HZ12 := Lib.hid (HZ11.out.alloc (Obj.cells #[.bool false, .string ⟨#[]⟩, .int .i64 0, .bool false] 57))
        have HA12 := Lib.hid (HA11.out.alloc (Obj.cells #[.bool false, .string ⟨#[]⟩, .int .i64 0, .bool false] 57))
        have HP12 := Lib.hid (HP11.out.alloc (Obj.cells #[.bool false, .string ⟨#[]⟩, .int .i64 0, .bool false] 57))
        have HQ12 := Lib.hid (HQ11.out.alloc (Obj.cells #[.bool false, .string ⟨#[]⟩, .int .i64 0, .bool false] 57))
        have HU12 := Lib.hid (HU11.out.alloc (Obj.cells #[.bool false, .string ⟨#[]⟩, .int .i64 0, .bool false] 57))
        have HL12 := Lib.hid (HL11.out.alloc HL11.out.size (Obj.cells #[.bool false, .string ⟨#[]⟩, .int .i64 0, .bool false] 57))
        have HV12 := Lib.hid (Blk.new w11 [.bool false, .string ⟨#[]⟩, .int .i64 0, .bool false] 57)
        clear HR11 HZ11 HA11 HL11
        have p0 := HP11.out.cell 0
        have p1 := HP11.out.cell 1
        have p2 := HP11.out.cell 2
        have p3 := HP11.out.cell 3
        simp only [List.getElem?_cons_zero, List.getElem?_cons_succ] at p0 p1 p2 p3
        have q0 := HQ11.out.cell 0
        have q1 := HQ11.out.cell 1
        have q2 := HQ11.out.cell 2
        have q3 := HQ11.out.cell 3
        simp only [List.getElem?_cons_zero, List.getElem?_cons_succ] at q0 q1 q2 q3
        have u0 := HU11.out.cell 0
        have u1 := HU11.out.cell 1
        have u2 := HU11.out.cell 2
        have u3 := HU11.out.cell 3
        simp only [List.getElem?_cons_zero, List.getElem?_cons_succ] at u0 u1 u2 u3
        have g0 := HP12.out.cell 0
        have g1 := HP12.out.cell 1
        have g2 := HP12.out.cell 2
        have g3 := HP12.out.cell 3
        simp only [List.getElem?_cons_zero, List.getElem?_cons_succ] at g0 g1 g2 g3
        have h0 := HQ12.out.cell 0
        have h1 := HQ12.out.cell 1
        have h2 := HQ12.out.cell 2
        have h3 := HQ12.out.cell 3
        simp only [List.getElem?_cons_zero, List.getElem?_cons_succ] at h0 h1 h2 h3
        have v0 := HU12.out.cell 0
        have v1 := HU12.out.cell 1
        have v2 := HU12.out.cell 2
        have v3 := HU12.out.cell 3
        simp only [List.getElem?_cons_zero, List.getElem?_cons_succ] at v0 v1 v2 v3
        have x0 := HV12.out.cell 0
        have x1 := HV12.out.cell 1
        have x2 := HV12.out.cell 2
        have x3 := HV12.out.cell 3
        simp only [List.getElem?_cons_zero, List.getElem?_cons_succ] at x0 x1 x2 x3
        have hP11 := Nat.ne_of_lt HP11.out.lt
        have hQ11 := Nat.ne_of_lt HQ11.out.lt
        have hU11 := Nat.ne_of_lt HU11.out.lt
        go_wp2_with fail
        go_roundg (n - (k + 1))
        case measure => omega
        case rel => exact ⟨k + 1, op2, xs2, t2, by omega, rfl, by go_num, HL12.out, HA12.out, hlen, ht2, hrel2, HR12.out, HZ12.out⟩
      · obtain rfl : k = n := by omega
        go_wp2_with fail
        go_ret
        exact ⟨rfl, hL⟩
end Go.Proofs.Ytebgehmgjafblaa
