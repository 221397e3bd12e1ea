/- What is proved here: the walk of the law about prefixes. -/
import Derived.Test.YtebgehmgjafblaaS14
import Derived.Test.YtebgehmgjafblaaF8
import Derived.Test.YtebgehmgjafblaaP14
import Derived.Test.YtebgehmgjafblaaL14p
import Derived.Test.YtebgehmgjafblaaQue
import Derived.Test.YtebgehmgjafblaaO14t
import Derived.Test.YtebgehmgjafblaaCalm
import Derived.Deep.DeepCutAuto
import Derived.Deep.LoopGhost
set_option linter.unusedVariables false
set_option linter.unusedSimpArgs false
namespace Go.Proofs.Ytebgehmgjafblaa
open Go.RowKit
def vi (x : Int) : Value := .int .i64 x
theorem info_int : (Try.prog.info? 3).map (fun i => (i.zero, i.size, i.bytes)) = some (some (.int .i64 0), 1, 8) := by kernel_rfl
theorem append_int {ops : Array Oper} {rest : List Oper} {o : Oper} {a : Act} {Q : Exit → Act → World → Prop} (w : World) (hgd : o.guard = none) (s x : Operand)
    (ho : o.op = .call { callee := .builtin .append, args := #[s, x], argTypes := #[39, 39] }) (hty : o.type = 39)
    (base : Nat) (v : Value) (n : Nat) (xs : List Value) (hs : a.eval s = v) (hrow : QRow w base 3 1 v n xs) (g : Nat) (y : Int) (hx : a.eval x = .slice (some ⟨g, 0, none⟩) 1 1) (hc : w.cell? ⟨g, 0, none⟩ = some (vi y))
    (hlen : n ≤ 1000000) (hbase : base ≤ w.heap.size)
    (h : ∀ v' w', QRow w' base 3 1 v' (n + 1) (xs ++ [vi y]) → Keep v.ownBlock.toList w w' → (v'.ownBlock = v.ownBlock ∨ v'.ownBlock = some w.heap.size) → wpList Try.prog ops Q rest (a.put o.dst v') w') : wpList Try.prog ops Q (o :: rest) a w := by
  have hi := info_int
  cases hi0 : Try.prog.info? 3 with
  | none => rw [hi0] at hi; simp at hi
  | some i =>
    rw [hi0] at hi
    simp only [Option.map_some, Option.some.injEq, Prod.mk.injEq] at hi
    obtain ⟨hz, hsz, hby⟩ := hi
    refine wpList_append_q w hgd s x 39 3 1 8 i _ ho Try.underlying39 hi0 hz rfl hsz hby base v n xs hs hrow g 0 1 1 [vi y] hx rfl (by simp [vi, Value.oneCell']) ?_ (by omega) (by unfold maxLen; omega) hbase ?_
    · intro j u hj
      cases j with
      | zero => simp at hj; subst hj; simpa using hc
      | succ j => simp at hj
    · intro v' w' h2 h3 h4
      exact h v' w' h2 h3 h4
theorem upto_int {w : World} {base : Nat} {a : Option Addr} {cap : Nat} {n : Nat} {xs : List Value} {y : Value} (h : QRow w base 3 1 (.slice a (n + 1) cap) (n + 1) (xs ++ [y])) :
    QRow w base 3 1 (.slice a n cap) n xs := by
  obtain ⟨hl, hm, h⟩ := h
  have hx : xs.length = n := by simp at hl; omega
  refine ⟨by omega, by omega, ?_⟩
  rcases h with ⟨h, _⟩ | ⟨g, off, c, cur, hv, hb, hg, h1, h2, h3, h4⟩
  · injection h with _ h; omega
  · injection hv with e1 e2 e3
    subst e1 e3
    refine .inr ⟨g, off, _, cur, rfl, hb, hg, by omega, h2, h3, ?_⟩
    have := congrArg (List.take n) h4
    rw [List.take_take, Nat.mul_one, Nat.min_eq_left (by omega), ← hx, List.take_left] at this
    rw [← hx, Nat.mul_one]
    exact this
theorem from_one {w : World} {base : Nat} {g off : Nat} {cap : Nat} {n : Nat} {xs : List Value} {y : Value} (h : QRow w base 3 1 (.slice (some ⟨g, off, none⟩) (n + 1) cap) (n + 1) (y :: xs)) (hc : cap ≠ 1) :
    QRow w base 3 1 (.slice (some ⟨g, off + 1, none⟩) n (cap - 1)) n xs := by
  obtain ⟨hl, hm, h⟩ := h
  have hx : xs.length = n := by simp at hl; omega
  refine ⟨by omega, by omega, ?_⟩
  rcases h with ⟨h, _⟩ | ⟨g', off', c, cur, hv, hb, hg, h1, h2, h3, h4⟩
  · injection h with _ h; omega
  · injection hv with e1 e2 e3
    injection e1 with e1
    injection e1 with e1 e4
    subst e1 e3 e4
    refine .inr ⟨g, off + 1, _, cur, rfl, hb, hg, by omega, by omega, by omega, ?_⟩
    have := congrArg (List.drop 1) h4
    rw [List.drop_take, List.drop_drop] at this
    simpa using this
theorem from_last {w : World} {base : Nat} {g off : Nat} {n : Nat} {xs : List Value} {y : Value} (h : QRow w base 3 1 (.slice (some ⟨g, off, none⟩) (n + 1) 1) (n + 1) (y :: xs)) :
    n = 0 ∧ xs = [] ∧ QRow w base 3 1 (.slice (some ⟨g, off, none⟩) 0 0) 0 [] := by
  obtain ⟨hl, hm, h⟩ := h
  have hx : xs.length = n := by simp at hl; omega
  rcases h with ⟨h, _⟩ | ⟨g', off', c, cur, hv, hb, hg, h1, h2, h3, h4⟩
  · injection h with _ h; omega
  · injection hv with e1 e2 e3
    injection e1 with e1
    injection e1 with e1 e4
    subst e1 e3 e4
    refine ⟨by omega, List.eq_nil_of_length_eq_zero (by omega), rfl, Nat.zero_le _, .inr ⟨g, off, 0, cur, rfl, hb, hg, by omega, by omega, by omega, by simp⟩⟩
theorem wd_field1' (a e f : Int) (b c d : Bool) (w : World) : (Instr.field 34 (.agg #[.int .i64 a, .bool b, .bool c, .bool d, .int .i64 e, .int .i64 f]) 1).run Try.prog w = .ok (.bool b) w := by kernel_rfl
theorem wd_field5 (a e f : Int) (b c d : Bool) (w : World) : (Instr.field 34 (.agg #[.int .i64 a, .bool b, .bool c, .bool d, .int .i64 e, .int .i64 f]) 5).run Try.prog w = .ok (.int .i64 f) w := by kernel_rfl
theorem u8_int (a : Int) (h0 : 0 ≤ a) (h1 : a ≤ 255) : a = ((UInt8.ofNat a.toNat).toNat : Int) := by rw [UInt8.toNat_ofNat']; omega
theorem bytes1_string (W : World) (a : Int) (h0 : 0 ≤ a) (h1 : a ≤ 255) :
    (convert 40 9 (.slice (some ⟨W.heap.size, 0, none⟩) 1 1)).run Try.prog (W.alloc (.cells #[.int .u8 a] 5)) = .ok (.string ⟨#[UInt8.ofNat a.toNat]⟩) (W.alloc (.cells #[.int .u8 a] 5)) := by
  refine run_string (base := W.heap.size) (xs := [UInt8.ofNat a.toNat]) (.inr ⟨W.heap.size, 1, _, _, rfl, Nat.le_refl _, heap_alloc_new W _, .inl rfl, Nat.le_refl _, by decide, rfl, ?_⟩)
  simp [vb]; omega
theorem bytes3_string (W : World) (a b c : Int) (h0 : 0 ≤ a) (h1 : a ≤ 255) (h2 : 0 ≤ b) (h3 : b ≤ 255) (h4 : 0 ≤ c) (h5 : c ≤ 255) :
    (convert 40 9 (.slice (some ⟨W.heap.size, 0, none⟩) 3 3)).run Try.prog (W.alloc (.cells #[.int .u8 a, .int .u8 b, .int .u8 c] 5)) = .ok (.string ⟨#[UInt8.ofNat a.toNat, UInt8.ofNat b.toNat, UInt8.ofNat c.toNat]⟩) (W.alloc (.cells #[.int .u8 a, .int .u8 b, .int .u8 c] 5)) := by
  refine run_string (base := W.heap.size) (xs := [UInt8.ofNat a.toNat, UInt8.ofNat b.toNat, UInt8.ofNat c.toNat]) (.inr ⟨W.heap.size, 3, _, _, rfl, Nat.le_refl _, heap_alloc_new W _, .inl rfl, Nat.le_refl _, by decide, rfl, ?_⟩)
  simp [vb]; omega
theorem take_set (half s : Int) (h1 : 1 ≤ half) (h2 : half ≤ 127) (h3 : 0 ≤ s) (h4 : s ≤ 255) :
    takeF (Fm.start 1 half 2) ⟨1, 2, true, true, 0, ⟨#[130, 0, UInt8.ofNat s.toNat]⟩⟩ true = (⟨1, half, ⟨2, false, false, false, 1, s⟩⟩, false, 0) := by
  have e : ((UInt8.ofNat s.toNat).toNat : Int) = s := (u8_int s h3 h4).symm
  have hg : (Tc.mk 1 2 true true 0 ⟨#[130, 0, UInt8.ofNat s.toNat]⟩).good = true := by
    rw [Tc.good_iff]
    refine ⟨?_, rfl⟩
    show (0 : Int) ≤ 1 ∧ (1 : Int) ≤ 255 ∧ (0 : Int) ≤ 0 ∧ (0 : Int) ≤ 255 ∧ (0 : Int) ≤ 2 ∧ (2 : Int) ≤ 7 ∧ 1 ≤ 3 ∧ 3 ≤ 200
    omega
  have hc : (Tc.mk 1 2 true true 0 ⟨#[130, 0, UInt8.ofNat s.toNat]⟩).ctl3 = (false, s, true) := by
    unfold Tc.ctl3
    rw [hg]
    show (if true && true then dataV [130, 0, UInt8.ofNat s.toNat] else (false, 0, false)) = _
    simp only [Bool.and_self, if_true, dataV, and_self]
    rw [e]
  unfold takeF
  rw [hg]
  simp [bypassF, hc, Fm.start]
theorem set_any (half s : Int) (g : Nat) (W : World) (h1 : 1 ≤ half) (h2 : half ≤ 127) (h3 : 0 ≤ s) (h4 : s ≤ 255) (hB : Blk W g (Fm.start 1 half 2).cells 82) :
    Calls Try.prog 19 #[.pointer (some ⟨g, 0, none⟩), .agg #[.int .i64 1, .int .i64 2, .bool true, .bool true, .int .i64 0, .string (⟨#[130, 0]⟩ ++ ⟨#[UInt8.ofNat s.toNat]⟩)], .bool true] W fun e w' =>
      e = .returned (.tuple #[.bool false, .int .i64 0]) ∧ Keep [g] W w' ∧ Blk w' g (Fm.mk 1 half ⟨2, false, false, false, 1, s⟩).cells 82 := by
  have e : (⟨#[130, 0]⟩ ++ ⟨#[UInt8.ofNat s.toNat]⟩ : ByteArray) = ⟨#[130, 0, UInt8.ofNat s.toNat]⟩ := by apply ByteArray.ext; rfl
  rw [e]
  have := Take_any (Fm.start 1 half 2) ⟨1, 2, true, true, 0, ⟨#[130, 0, UInt8.ofNat s.toNat]⟩⟩ true g W ⟨h1, h2, by simp [Fm.start], by simp [Fm.start], by simp [Fm.start], by simp [Fm.start]⟩ hB
  rw [take_set half s h1 h2 h3 h4] at this
  exact this
theorem way_any (half n s x : Int) (wa re room : Bool) (d : ByteArray) (g : Nat) (W : World) (h1 : 1 ≤ half) (h2 : half ≤ 127) (h3 : n ≤ x + half) (h4 : x - n ≤ half - 1) (hd : d.size = 3)
    (hB : Blk W g (Fm.mk 1 half ⟨2, false, wa, re, 1, (s + n) % 256⟩).cells 82) :
    Calls Try.prog 19 #[.pointer (some ⟨g, 0, none⟩), .agg #[.int .i64 1, .int .i64 2, .bool false, .bool false, .int .i64 ((s + x) % 256), .string d], .bool room] W fun e w' =>
      ∃ ok wa' re' : Bool, e = .returned (.tuple #[.bool ok, .int .i64 0]) ∧ (ok = true → x = n) ∧ Keep [g] W w' ∧ Blk w' g (Fm.mk 1 half ⟨2, false, wa', re', 1, if ok then (s + (n + 1)) % 256 else (s + n) % 256⟩).cells 82 := by
  obtain ⟨ok, wa', re', ht, hx⟩ := take_way half n s x wa re room d h1 h2 h3 h4 hd
  have := Take_any (Fm.mk 1 half ⟨2, false, wa, re, 1, (s + n) % 256⟩) ⟨1, 2, false, false, (s + x) % 256, d⟩ room g W ⟨h1, h2, by simp, by simp, by simp only; omega, by simp only; omega⟩ hB
  rw [ht] at this
  refine this.mono fun e w' h => ⟨ok, wa', re', h.1, hx, h.2.1, h.2.2⟩
set_option maxHeartbeats 8000000 in
set_option maxRecDepth 100000 in
theorem FarmPrefix_long (win beg : Int) (a : Option Addr) (n cap : Nat) (w : World) (hn : n ≤ 9223372036854775807) (hn5 : 2000 < n) :
    Calls Try.prog 4 #[.int .i64 win, .int .i64 beg, .slice a n cap] w fun e w' => e = .returned (.bool true) ∧ Below w.heap.size w w' := by
  have HSH := Lib.hid (shown14_any w)
  go_enter Try.func4, Try.ntmps4
  go_wp2_with fail
  refine HSH.out.mono ?_
  rintro e w1 ⟨rfl, hL⟩
  have HL := Lib.hid hL; clear hL
  go_wp2_with fail
  go_ret
  exact ⟨rfl, HL.out⟩
end Go.Proofs.Ytebgehmgjafblaa
