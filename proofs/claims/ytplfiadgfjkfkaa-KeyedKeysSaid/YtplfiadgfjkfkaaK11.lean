/- What is proved here: the two ways to make a keyed sum are one; the walks of the reference's Seal and Open. -/
import Derived.Test.YtplfiadgfjkfkaaK10
namespace Go.Proofs.Ytplfiadgfjkfkaa
open Go.RowKit
theorem addL_append : ∀ (r1 : List UInt8) (x : Four) (left r2 : List UInt8), addL x left (r1 ++ r2) = addL (addL x left r1).1 (addL x left r1).2 r2
  | [], _, _, _ => rfl
  | c :: r1, x, left, r2 => addL_append r1 _ _ r2
/-- Fewer than eight bytes stay. -/
theorem addL_short : ∀ (r : List UInt8) (x : Four) (left : List UInt8), left.length + r.length ≤ 7 → addL x left r = (x, left ++ r)
  | [], x, left, _ => by simp [addL]
  | c :: r, x, left, h => by
    have h1 : ¬ left.length = 7 := by simp at h; omega
    rw [addL, addS, if_neg h1]
    rw [addL_short r x (left ++ [c]) (by simp at h ⊢; omega)]
    simp
theorem addL_eight (c : List UInt8) (x : Four) (h : c.length = 8) : addL x [] c = (x.take (numLE c), []) := by
  obtain ⟨d, hd⟩ : ∃ d, d = c.take 7 := ⟨_, rfl⟩
  have hc : c = d ++ [c[7]] := by
    rw [hd]
    have := List.take_append_drop 7 c
    rw [List.drop_eq_getElem_cons (by omega), List.drop_eq_nil_of_le (by omega)] at this
    exact this.symm
  have hdl : d.length = 7 := by rw [hd]; simp; omega
  rw [hc, addL_append, addL_short d x [] (by simp; omega)]
  simp [addL, addS, hdl]
theorem addL_chunks : ∀ (n : Nat) (x : Four) (l : List UInt8), l.length = 8 * n → addL x [] l = (chunkN n x l, [])
  | 0, x, l, h => by
    have : l = [] := List.eq_nil_of_length_eq_zero (by omega)
    subst this; rfl
  | n + 1, x, l, h => by
    have h8 : (l.take 8).length = 8 := by simp; omega
    conv => lhs; rw [← List.take_append_drop 8 l]
    rw [addL_append, addL_eight _ _ h8, addL_chunks n _ (l.drop 8) (by simp; omega), chunkN]
theorem chunkN_take : ∀ (n : Nat) (x : Four) (l r : List UInt8), l.length = 8 * n → chunkN n x (l ++ r) = chunkN n x l
  | 0, _, _, _, _ => rfl
  | n + 1, x, l, r, h => by
    rw [chunkN, chunkN, List.take_append_of_le_length (by omega), List.drop_append_of_le_length (by omega), chunkN_take n _ (l.drop 8) r (by simp; omega)]
theorem refSum_eq (key b : List UInt8) : refSum key b = keyedSum key b := by
  obtain ⟨q, hq⟩ : ∃ q, q = b.length / 8 := ⟨_, rfl⟩
  obtain ⟨x, hx⟩ : ∃ x, x = Four.begin key := ⟨_, rfl⟩
  obtain ⟨f, hf⟩ : ∃ f, f = b.take (8 * q) := ⟨_, rfl⟩
  obtain ⟨r, hr⟩ : ∃ r, r = b.drop (8 * q) := ⟨_, rfl⟩
  have hb : b = f ++ r := by rw [hf, hr, List.take_append_drop]
  have hfl : f.length = 8 * q := by rw [hf]; simp; omega
  have hrl : r.length = b.length % 8 := by rw [hr]; simp; omega
  have h1 : addL x [] b = (chunkN q x f, r) := by
    rw [hb, addL_append, addL_chunks q x f hfl, addL_short r _ [] (by simp; omega)]; simp
  have h2 : padded b = f ++ (r ++ List.replicate (7 - r.length) 0 ++ [UInt8.ofNat (b.length % 256)]) := by
    rw [padded, ← hrl, show b ++ List.replicate (7 - r.length) (0 : UInt8) = (f ++ r) ++ List.replicate (7 - r.length) 0 by rw [← hb]]
    simp
  have hc : UInt8.ofNat (b.length % 256) = UInt8.ofNat b.length := by
    apply UInt8.toNat_inj.1; simp
  unfold refSum keyedSum sumEnd
  rw [← hx, ← hq]
  simp only [h1]
  rw [chunkN_succ, h2, chunkN_take q x f _ hfl, List.drop_append_of_le_length (by omega), List.drop_eq_nil_of_le (by omega), List.nil_append,
    List.take_of_length_le (by simp; omega), hc]
theorem rSum_any (key b : ByteArray) (w : World) (hk : key.size = 16) (hb : b.size ≤ 1000000000) :
    Calls Try.prog 11 #[.string key, .string b] w fun e w' => e = .returned (.tuple #[.int .u64 (w64 (keyedSum key.data.toList b.data.toList)), .int .i64 0]) ∧ Below w.heap.size w w' := by
  rw [← refSum_eq]; exact rSum_ok key b w hk hb
attribute [local go_sem] run_bytes bytes_size
set_option maxHeartbeats 2000000 in
theorem rSeal_ok (key b : ByteArray) (w : World) (hk : key.size = 16) (hb : b.size ≤ 1000000000) :
    Calls Try.prog 13 #[.string key, .string b] w fun e w' => e = .returned (.tuple #[strOf (b.data.toList ++ be8 (keyedSum key.data.toList b.data.toList)), .int .i64 0]) ∧ Below w.heap.size w w' := by
  have Hk := Lib.hid hk; clear hk
  go_enter Try.func13, Try.ntmps13
  go_wp2_with fail
  refine (rSum_any key b _ Hk.out (by omega)).mono ?_
  obtain ⟨n, hn⟩ : ∃ n, n = keyedSum key.data.toList b.data.toList := ⟨_, rfl⟩
  rw [← hn]
  rintro e w1 ⟨rfl, hL1⟩
  have HN := Lib.hid hn; clear hn
  have HL1 := Lib.hid hL1; clear hL1
  go_wp2_with fail
  go_loopw [8, 9] (fun out i wr => ∃ k : Nat, k ≤ 8 ∧ i = .int .i64 ((7 : Int) - k) ∧ Below w.heap.size w wr ∧ Row wr w.heap.size out (b.data.toList ++ (be8 n).take k)) (fun _ i _ => (intOf i + 1).toNat)
  case atStart =>
    exact ⟨0, by omega, by simp, HL1.out.trans ((bytes_keep w1 b).toBelowAt HL1.out.size (by simp)), by simpa using row_mono (bytes_row w1 b (by omega)) HL1.out.size⟩
  case round =>
    obtain ⟨k, hk, rfl, hL, hR⟩ := hrel
    have HL := Lib.hid hL; clear hL
    have HR := Lib.hid hR; clear hR
    by_cases hlt : k < 8
    · obtain ⟨l, hl⟩ : ∃ l, l = b.data.toList ++ (be8 n).take k := ⟨_, rfl⟩
      have HR := HR.out
      rw [← hl] at HR
      have hlen : l.length ≤ b.size + 8 := by rw [hl]; simp [be8]; omega
      have Hl := Lib.hid hl; clear hl
      obtain ⟨oa, oc, rfl⟩ := row_form HR
      have hl3 := HL.out.size
      have HR0 := Lib.hid HR; clear HR
      go_wp2_with (at_builtin; refine append_byte _ rfl _ _ rfl w.heap.size _ _ rfl (row_keep HR0.out ((Keep.refl [] _).alloc _) (fun _ _ => by simp)) wr.heap.size (beByte n k) rfl ?c1 ?c2 ?c3 ?_)
      case c1 => simp [vb, beByte_int]
      case c2 => omega
      case c3 => simp; omega
      intro v2 w2 hR2 hK2
      have K2 := ((Keep.refl _ wr).alloc _).trans hK2
      have L2 := HL.out.trans (K2.toBelowAt hl3 (fun i hi => by rw [Option.mem_toList] at hi; exact (row_lt HR0.out i hi).1))
      have HR2 := Lib.hid hR2; have HL2 := Lib.hid L2
      clear hR2 hK2 K2 L2 hlen
      go_wp2_with fail
      go_roundw
      case rel => exact ⟨k + 1, by omega, by rw [show (7 - (k : Int) - 1) = 7 - ((k + 1 : Nat) : Int) by omega], HL2.out, by rw [be8_take n k hlt, ← List.append_assoc, ← Hl.out]; exact HR2.out⟩
      case measure => simp [intOf]; omega
    · obtain rfl : k = 8 := by omega
      have hcv := run_string HR.out
      go_wp2_with fail
      go_ret2
      refine ⟨?_, HL.out⟩
      have e8 : List.take 8 (be8 n) = be8 n := List.take_of_length_le (by simp [be8])
      rw [← HN.out, strOf]
      simp [e8]
set_option maxHeartbeats 2000000 in
theorem rSeal_bad (key b : ByteArray) (w : World) (hk : key.size ≠ 16) :
    Calls Try.prog 13 #[.string key, .string b] w fun e w' => e = .returned (.tuple #[strOf [], .int .i64 2]) ∧ Below w.heap.size w w' := by
  go_enter Try.func13, Try.ntmps13
  go_wp2_with fail
  refine (rSum_bad key b _ hk).mono ?_
  rintro e w1 ⟨rfl, hL1⟩
  have HL1 := Lib.hid hL1; clear hL1
  go_wp2_with fail
  go_ret2
  exact ⟨rfl, HL1.out⟩
set_option maxHeartbeats 2000000 in
theorem rOpen_key (key s : ByteArray) (w : World) (hk : key.size ≠ 16) (hs : s.size ≤ 1000000000) :
    Calls Try.prog 15 #[.string key, .string s] w fun e w' => e = .returned (.tuple #[strOf [], .int .i64 2]) ∧ Below w.heap.size w w' := by
  have h1 : ((key.size : Int) != 16) = true := by rw [bne_iff_ne]; omega
  clear hk
  go_enter Try.func15, Try.ntmps15
  go_wp2_with fail
  go_ret2
  exact ⟨rfl, Below.refl _ _⟩
set_option maxHeartbeats 2000000 in
theorem rOpen_short (key s : ByteArray) (w : World) (hk : key.size = 16) (hs : s.size < 8) :
    Calls Try.prog 15 #[.string key, .string s] w fun e w' => e = .returned (.tuple #[strOf [], .int .i64 6]) ∧ Below w.heap.size w w' := by
  have h1 : ((key.size : Int) != 16) = false := by rw [hk]; rfl
  clear hk
  go_enter Try.func15, Try.ntmps15
  go_wp2_with fail
  go_ret2
  exact ⟨rfl, Below.refl _ _⟩
set_option maxHeartbeats 2000000 in
theorem rOpen_any (key s : ByteArray) (w : World) (hk : key.size = 16) (hs : 8 ≤ s.size) (hs2 : s.size ≤ 1000000000) :
    Calls Try.prog 15 #[.string key, .string s] w fun e w' => e = .returned (openV key s) ∧ Below w.heap.size w w' := by
  have h1 : ((key.size : Int) != 16) = false := by rw [hk]; rfl
  have Hk := Lib.hid hk; clear hk
  go_enter Try.func15, Try.ntmps15
  go_wp2_with fail
  refine (rSeal_ok key _ _ Hk.out (by simp; omega)).mono ?_
  rintro e w1 ⟨rfl, hL1⟩
  have HL1 := Lib.hid hL1; clear hL1
  have hr : (s.extract 0 (s.size - 8)).data.toList ++ be8 (keyedSum key.data.toList (s.extract 0 (s.size - 8)).data.toList) = sealed key.data.toList (s.data.toList.take (s.size - 8)) := by
    rw [sealed, show (s.extract 0 (s.size - 8)).data.toList = s.data.toList.take (s.size - 8) by simp]
  rw [hr]
  by_cases hq : openOk key s = true
  · have hq2 : sealed key.data.toList (s.data.toList.take (s.size - 8)) = s.data.toList := by simpa [openOk] using hq
    rw [hq2, show strOf s.data.toList = .string s by simp [strOf]]
    have hv : openV key s = .tuple #[strOf (s.data.toList.take (s.size - 8)), .int .i64 0] := by rw [openV, if_pos hq]
    have HV := Lib.hid hv
    clear hq2 hq hr hv
    go_wp2_with fail
    go_ret2
    refine ⟨?_, HL1.out⟩
    rw [HV.out, ← extract_str]; rfl
  · have hq2 : sealed key.data.toList (s.data.toList.take (s.size - 8)) ≠ s.data.toList := by simpa [openOk] using hq
    have hv : openV key s = .tuple #[strOf [], .int .i64 6] := by rw [openV, if_neg hq]
    have HV := Lib.hid hv
    clear hr hv
    obtain ⟨r, hr⟩ : ∃ r, r = sealed key.data.toList (s.data.toList.take (s.size - 8)) := ⟨_, rfl⟩
    rw [← hr]
    rw [← hr] at hq2
    have hne : (r == s.toList) = false := by rw [toList_data]; simpa using hq2
    clear hr hq hq2
    unfold strOf
    go_wp2_with fail
    go_ret2
    exact ⟨HV.out.symm ▸ rfl, HL1.out⟩
end Go.Proofs.Ytplfiadgfjkfkaa
