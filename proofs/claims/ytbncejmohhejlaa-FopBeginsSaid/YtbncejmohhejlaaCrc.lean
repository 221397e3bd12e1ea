/- What is proved here: plain laws of the two checksums as linear registers: no program in sight. No condition. -/
set_option linter.unusedVariables false
set_option linter.unusedSimpArgs false
namespace Go.Proofs.Ytbncejmohhejlaa
/-- A step, done so many times. -/
def iter {α : Type} (f : α → α) : Nat → α → α
  | 0, x => x
  | k + 1, x => iter f k (f x)
theorem iter_add {α : Type} (f : α → α) : ∀ (a b : Nat) (x : α), iter f (a + b) x = iter f b (iter f a x)
  | 0, b, x => by rw [Nat.zero_add]; rfl
  | a + 1, b, x => by rw [Nat.add_right_comm, iter, iter_add f a b, iter]
theorem iter_succ {α : Type} (f : α → α) (a : Nat) (x : α) : iter f (a + 1) x = f (iter f a x) := by rw [iter_add]; rfl
theorem iter_mul {α : Type} (f : α → α) (a : Nat) : ∀ (b : Nat) (x : α), iter f (a * b) x = iter (iter f a) b x
  | 0, x => rfl
  | b + 1, x => by rw [Nat.mul_succ, Nat.add_comm, iter_add, iter_mul f a b]; rfl

section
variable {n : Nat} {sh : BitVec n → BitVec n} {e : Nat → BitVec n}
structure Lin (sh : BitVec n → BitVec n) : Prop where
  xor : ∀ x y, sh (x ^^^ y) = sh x ^^^ sh y
theorem Lin.zero (h : Lin sh) : sh 0#n = 0#n := by
  have := h.xor 0#n 0#n
  rw [BitVec.xor_self] at this
  rw [this, BitVec.xor_self]
theorem Lin.iter (h : Lin sh) : ∀ k, Lin (iter sh k)
  | 0 => ⟨fun _ _ => rfl⟩
  | k + 1 => ⟨fun x y => by show Proofs.Ytbncejmohhejlaa.iter sh k (sh (x ^^^ y)) = _; rw [h.xor, (Lin.iter h k).xor]; rfl⟩
theorem Lin.comp {sh' : BitVec n → BitVec n} (h : Lin sh) (h' : Lin sh') : Lin (fun x => sh (sh' x)) := ⟨fun x y => by rw [h'.xor, h.xor]⟩
def bitOf (e : BitVec n) (b : Bool) : BitVec n := if b then e else 0#n
theorem bitOf_xor (e : BitVec n) (a b : Bool) : bitOf e (a ^^ b) = bitOf e a ^^^ bitOf e b := by
  cases a <;> cases b <;> simp [bitOf]
def emb (e : Nat → BitVec n) : Nat → List Bool → BitVec n
  | _, [] => 0#n
  | i, b :: r => bitOf (e i) b ^^^ emb e (i + 1) r
def feed (sh : BitVec n → BitVec n) (e0 : BitVec n) (r : BitVec n) (b : Bool) : BitVec n := sh (r ^^^ bitOf e0 b)
def run (sh : BitVec n → BitVec n) (e0 : BitVec n) (r : BitVec n) (l : List Bool) : BitVec n := l.foldl (feed sh e0) r
theorem run_append (e0 r : BitVec n) (a b : List Bool) : run sh e0 r (a ++ b) = run sh e0 (run sh e0 r a) b := by simp [run]
theorem sh_emb (h : Lin sh) (m : Nat) (he : ∀ i, i + 1 < m → sh (e (i + 1)) = e i) : ∀ (l : List Bool) (i : Nat), i + 1 + l.length ≤ m → sh (emb e (i + 1) l) = emb e i l
  | [], i, _ => h.zero
  | b :: r, i, hl => by
    rw [emb, emb, h.xor, sh_emb h m he r (i + 1) (by simp at hl; omega)]
    congr 1
    cases b
    · exact h.zero
    · exact he i (by simp at hl; omega)
theorem run_emb (h : Lin sh) (m : Nat) (he : ∀ i, i + 1 < m → sh (e (i + 1)) = e i) : ∀ (l : List Bool) (r : BitVec n), l.length ≤ m → run sh (e 0) r l = iter sh l.length (r ^^^ emb e 0 l)
  | [], r, _ => by show r = r ^^^ 0#n; rw [BitVec.xor_zero]
  | b :: l, r, hl => by
    have h1 : run sh (e 0) r (b :: l) = run sh (e 0) (feed sh (e 0) r b) l := rfl
    rw [h1, run_emb h m he l _ (by simp at hl; omega)]
    show _ = iter sh (l.length + 1) _
    rw [iter, emb, feed, h.xor, h.xor, h.xor, sh_emb h m he l 0 (by simp at hl; omega), BitVec.xor_assoc]
/-- Two registers that are fed two strings of bits. -/
theorem run_xor (h : Lin sh) (e0 : BitVec n) : ∀ (a b : List Bool) (r s : BitVec n), a.length = b.length → run sh e0 r a ^^^ run sh e0 s b = run sh e0 (r ^^^ s) (List.zipWith (· ^^ ·) a b)
  | [], [], r, s, _ => rfl
  | [], _ :: _, _, _, hl => by cases hl
  | _ :: _, [], _, _, hl => by cases hl
  | x :: a, y :: b, r, s, hl => by
    show run sh e0 (feed sh e0 r x) a ^^^ run sh e0 (feed sh e0 s y) b = run sh e0 (feed sh e0 (r ^^^ s) (x ^^ y)) (List.zipWith (· ^^ ·) a b)
    rw [run_xor h e0 a b _ _ (by simpa using hl)]
    congr 1
    unfold feed
    rw [← h.xor, bitOf_xor]
    congr 1
    rw [BitVec.xor_assoc, BitVec.xor_assoc]; congr 1
    rw [← BitVec.xor_assoc, ← BitVec.xor_assoc, BitVec.xor_comm s]
theorem run_false (e0 : BitVec n) : ∀ (l : List Bool) (r : BitVec n), (∀ b ∈ l, b = false) → run sh e0 r l = iter sh l.length r
  | [], _, _ => rfl
  | b :: l, r, hb => by
    have : b = false := hb b (by simp)
    subst this
    show run sh e0 (sh (r ^^^ 0#n)) l = iter sh l.length (sh r)
    rw [BitVec.xor_zero]; exact run_false e0 l _ (fun b h => hb b (by simp [h]))
theorem zipSelf : ∀ (l : List Bool), ∀ b ∈ List.zipWith (· ^^ ·) l l, b = false
  | [], b, h => by cases h
  | x :: l, b, h => by
    rw [List.zipWith_cons_cons] at h
    rcases List.mem_cons.1 h with h | h
    · rw [h]; simp
    · exact zipSelf l b h
theorem run_split (h : Lin sh) (e0 : BitVec n) (l : List Bool) (r s : BitVec n) : run sh e0 r l ^^^ run sh e0 s l = iter sh l.length (r ^^^ s) := by
  rw [run_xor h e0 l l r s rfl, run_false e0 _ _ (zipSelf l)]; simp
theorem iter_ne (h0 : ∀ x, sh x = 0#n → x = 0#n) : ∀ k x, iter sh k x = 0#n → x = 0#n
  | 0, _, hx => hx
  | k + 1, x, hx => h0 x (iter_ne h0 k (sh x) hx)
/-- A change within so many bits that the register holds them all is seen. -/
theorem burst (h : Lin sh) (h0 : ∀ x, sh x = 0#n → x = 0#n) (he : ∀ i, i + 1 < n → sh (e (i + 1)) = e i) (hemb : ∀ l : List Bool, l.length = n → emb e 0 l = 0#n → ∀ b ∈ l, b = false)
    (a w z : List Bool) (ha : ∀ b ∈ a, b = false) (hz : ∀ b ∈ z, b = false) (hw : w.length = n) (hr : run sh (e 0) 0#n (a ++ w ++ z) = 0#n) : ∀ b ∈ w, b = false := by
  rw [run_append, run_append, run_false _ a _ ha, run_false _ z _ hz] at hr
  have h1 := iter_ne h0 _ _ hr
  rw [(h.iter a.length).zero, run_emb h n he w _ (by omega), BitVec.zero_xor] at h1
  exact hemb w hw (iter_ne h0 _ _ h1)
end

/-! ### The two registers -/
def sh16 (r : BitVec 16) : BitVec 16 := r <<< 1 ^^^ (r >>> 15) * 4129#16
def sh32 (r : BitVec 32) : BitVec 32 := r >>> 1 ^^^ (r &&& 1#32) * 3988292384#32
def e16 (i : Nat) : BitVec 16 := 1#16 <<< (15 - i)
def e32 (i : Nat) : BitVec 32 := 1#32 <<< i
theorem sh16_eq (r : BitVec 16) : sh16 r = r <<< 1 ^^^ (if r.getLsbD 15 then 4129#16 else 0#16) := by
  unfold sh16; congr 1
  have h : r >>> 15 = if r.getLsbD 15 then 1#16 else 0#16 := by
    apply BitVec.eq_of_getLsbD_eq; intro i hi
    rw [BitVec.getLsbD_ushiftRight]
    by_cases h0 : i = 0
    · subst h0; split <;> simp_all
    · rw [BitVec.getLsbD_of_ge _ _ (by omega)]; split <;> simp [h0]
  rw [h]; split <;> rfl
theorem sh32_eq (r : BitVec 32) : sh32 r = r >>> 1 ^^^ (if r.getLsbD 0 then 3988292384#32 else 0#32) := by
  unfold sh32; congr 1
  have h : r &&& 1#32 = if r.getLsbD 0 then 1#32 else 0#32 := by
    apply BitVec.eq_of_getLsbD_eq; intro i hi
    rw [BitVec.getLsbD_and]
    by_cases h0 : i = 0
    · subst h0; split <;> simp_all
    · split <;> simp [h0]
  rw [h]; split <;> rfl
theorem if_xor {n : Nat} (k : BitVec n) (a b : Bool) : (if (a ^^ b) = true then k else 0#n) = (if a = true then k else 0#n) ^^^ (if b = true then k else 0#n) := by
  cases a <;> cases b <;> simp
theorem xor4 {n : Nat} (a b c d : BitVec n) : (a ^^^ b) ^^^ (c ^^^ d) = (a ^^^ c) ^^^ (b ^^^ d) := by
  rw [BitVec.xor_assoc, BitVec.xor_assoc]; congr 1; rw [← BitVec.xor_assoc, ← BitVec.xor_assoc, BitVec.xor_comm b]
theorem lin16 : Lin sh16 := ⟨fun x y => by
  rw [sh16_eq, sh16_eq, sh16_eq, BitVec.getLsbD_xor, if_xor, BitVec.shiftLeft_xor_distrib]; exact xor4 _ _ _ _⟩
theorem lin32 : Lin sh32 := ⟨fun x y => by
  rw [sh32_eq, sh32_eq, sh32_eq, BitVec.getLsbD_xor, if_xor, BitVec.ushiftRight_xor_distrib]; exact xor4 _ _ _ _⟩
theorem inj16 (x : BitVec 16) (h : sh16 x = 0#16) : x = 0#16 := by
  rw [sh16_eq] at h
  have h0 : x.getLsbD 15 = false := by
    have := congrArg (fun v => v.getLsbD 0) h
    simp only [BitVec.getLsbD_xor, BitVec.getLsbD_shiftLeft] at this
    cases hb : x.getLsbD 15
    · rfl
    · rw [hb] at this; simp at this
  rw [h0] at h
  simp only [Bool.false_eq_true, if_false, BitVec.xor_zero] at h
  apply BitVec.eq_of_getLsbD_eq; intro i hi
  by_cases h15 : i = 15
  · subst h15; rw [h0]; simp
  · have := congrArg (fun v => v.getLsbD (i + 1)) h
    simp only [BitVec.getLsbD_shiftLeft] at this
    simpa [show i + 1 < 16 by omega] using this
theorem inj32 (x : BitVec 32) (h : sh32 x = 0#32) : x = 0#32 := by
  rw [sh32_eq] at h
  have h0 : x.getLsbD 0 = false := by
    have := congrArg (fun v => v.getLsbD 31) h
    simp only [BitVec.getLsbD_xor, BitVec.getLsbD_ushiftRight] at this
    cases hb : x.getLsbD 0
    · rfl
    · rw [hb, BitVec.getLsbD_of_ge _ _ (by omega)] at this; simp at this
  rw [h0] at h
  simp only [Bool.false_eq_true, if_false, BitVec.xor_zero] at h
  apply BitVec.eq_of_getLsbD_eq; intro i hi
  by_cases h31 : i = 0
  · subst h31; rw [h0]; simp
  · have := congrArg (fun v => v.getLsbD (i - 1)) h
    simp only [BitVec.getLsbD_ushiftRight] at this
    rw [show 1 + (i - 1) = i by omega] at this
    simpa using this
theorem he16 : ∀ i, i + 1 < 16 → sh16 (e16 (i + 1)) = e16 i := by
  have : ∀ i, i < 15 → sh16 (e16 (i + 1)) = e16 i := by decide
  exact fun i h => this i (by omega)
theorem one_bit (n k : Nat) (h : 1 ≤ k) : (1#n).getLsbD k = false := by
  rw [BitVec.getLsbD_one]; simp; omega
theorem he32 : ∀ i, i + 1 < 32 → sh32 (e32 (i + 1)) = e32 i := by
  have : ∀ i, i < 31 → sh32 (e32 (i + 1)) = e32 i := by decide
  exact fun i h => this i (by omega)
/-- The bit j of an embedding. -/
theorem emb16_bit : ∀ (l : List Bool) (i j : Nat), i + l.length ≤ 16 → j < 16 → (emb e16 i l).getLsbD j = if i ≤ 15 - j then l.getD (15 - j - i) false else false
  | [], i, j, _, _ => by simp [emb]
  | b :: l, i, j, hl, hj => by
    have hl' : i + 1 + l.length ≤ 16 := by simp at hl; omega
    rw [emb, BitVec.getLsbD_xor, emb16_bit l (i + 1) j hl' hj]
    have hb : (bitOf (e16 i) b).getLsbD j = (b && decide (j = 15 - i)) := by
      cases b
      · simp [bitOf]
      · simp only [bitOf, if_true, e16, BitVec.getLsbD_shiftLeft, Bool.true_and]
        by_cases h : j = 15 - i
        · subst h; simp [hj]
        · simp only [h, decide_false]
          by_cases h2 : j < 15 - i
          · simp [h2]
          · rw [one_bit _ _ (by omega)]; simp
    rw [hb]
    by_cases h1 : i = 15 - j
    · rw [if_neg (by omega), if_pos (by omega), show 15 - j - i = 0 by omega]
      simp; intro _; omega
    · by_cases h2 : i + 1 ≤ 15 - j
      · rw [if_pos h2, if_pos (by omega), show 15 - j - i = (15 - j - (i + 1)) + 1 by omega, show decide (j = 15 - i) = false by simp; omega]
        simp
      · rw [if_neg h2, if_neg (by omega)]
        simp; intro _; omega
theorem emb32_bit : ∀ (l : List Bool) (i j : Nat), i + l.length ≤ 32 → j < 32 → (emb e32 i l).getLsbD j = if i ≤ j then l.getD (j - i) false else false
  | [], i, j, _, _ => by simp [emb]
  | b :: l, i, j, hl, hj => by
    have hl' : i + 1 + l.length ≤ 32 := by simp at hl; omega
    rw [emb, BitVec.getLsbD_xor, emb32_bit l (i + 1) j hl' hj]
    have hb : (bitOf (e32 i) b).getLsbD j = (b && decide (j = i)) := by
      cases b
      · simp [bitOf]
      · simp only [bitOf, if_true, e32, BitVec.getLsbD_shiftLeft, Bool.true_and]
        by_cases h : j = i
        · subst h; simp [hj]
        · simp only [h, decide_false]
          by_cases h2 : j < i
          · simp [h2]
          · rw [one_bit _ _ (by omega)]; simp
    rw [hb]
    by_cases h1 : i = j
    · rw [if_neg (by omega), if_pos (by omega), show j - i = 0 by omega]
      simp; intro _; omega
    · by_cases h2 : i + 1 ≤ j
      · rw [if_pos h2, if_pos (by omega), show j - i = (j - (i + 1)) + 1 by omega, show decide (j = i) = false by simp; omega]
        simp
      · rw [if_neg h2, if_neg (by omega)]
        simp; intro _; omega
theorem hemb16 (l : List Bool) (hl : l.length = 16) (h : emb e16 0 l = 0#16) : ∀ b ∈ l, b = false := by
  intro b hb
  obtain ⟨k, hk, rfl⟩ := List.getElem_of_mem hb
  have := congrArg (fun v => v.getLsbD (15 - k)) h
  simp only [emb16_bit l 0 (15 - k) (by omega) (by omega), if_pos (Nat.zero_le _)] at this
  rw [show 15 - (15 - k) - 0 = k by omega] at this
  simpa [List.getD_eq_getElem?_getD, hk] using this
theorem hemb32 (l : List Bool) (hl : l.length = 32) (h : emb e32 0 l = 0#32) : ∀ b ∈ l, b = false := by
  intro b hb
  obtain ⟨k, hk, rfl⟩ := List.getElem_of_mem hb
  have := congrArg (fun v => v.getLsbD k) h
  simp only [emb32_bit l 0 k (by omega) (by omega), if_pos (Nat.zero_le _)] at this
  rw [Nat.sub_zero] at this
  simpa [List.getD_eq_getElem?_getD, hk] using this
end Go.Proofs.Ytbncejmohhejlaa
