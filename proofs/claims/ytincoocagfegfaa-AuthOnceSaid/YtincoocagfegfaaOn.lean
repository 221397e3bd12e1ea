/- What is proved here: the append of a list of strings to two strings; what Restore finds among them. -/
import Derived.Test.YtincoocagfegfaaU17
import Derived.Test.YtincoocagfegfaaS17
import Derived.Test.YtincoocagfegfaaRow
import Derived.Deep.Upon
import Derived.Deep.AppendLies
set_option linter.unusedVariables false
set_option linter.unusedSimpArgs false
namespace Go.Proofs.Ytincoocagfegfaa
open Go.RowKit
open Go.RowKit
/-- Two texts, and others behind them. -/
def three (b s : ByteArray) (S : Nat → ByteArray) (i : Nat) : ByteArray := if i = 0 then b else if i = 1 then s else S (i - 2)
theorem info_str : (Try.prog.info? 9).map (fun i => (i.zero, i.size, i.bytes)) = some (some (.string ⟨#[]⟩), 1, 16) := by kernel_rfl
theorem run_append_strs (W : World) (ty : TypeId) (a : Option Addr) (n cap : Nat) (S : Nat → ByteArray) (b s : ByteArray) (g : Nat) (hB : Blk W g [.string b, .string s] 9) (hn : n ≤ 1000000) (hR : RowAt W a n (fun i => .string (S i))) :
    ∃ a' cap' w', (Builtin.append_ #[30, 30] ty #[.slice (some ⟨g, 0, none⟩) 2 2, .slice a n cap]).run Try.prog W = .ok (.slice a' (2 + n) cap') w' ∧ RowAt w' a' (2 + n) (fun i => .string (three b s S i)) ∧ Keep [g] W w' := by
  have hi0 := info_str
  obtain ⟨i0, hi, hh⟩ := Option.map_eq_some_iff.1 hi0
  simp only [Prod.mk.injEq] at hh
  obtain ⟨hz0, hz1, hz2⟩ := hh
  have hown : W.ownsRow g 9 1 (.slice (some ⟨g, 0, none⟩) 2 2) 2 [.string b, .string s] :=
    ⟨rfl, .inr ⟨g, 2, _, rfl, Nat.le_refl _, hB, by omega, by decide, rfl, rfl⟩⟩
  by_cases h0 : n = 0
  · subst h0
    refine ⟨some ⟨g, 0, none⟩, 2, W, ?_, ?_, Keep.refl _ _⟩
    · refine run_append_nothing (P := Try.prog) W 30 30 ty 9 i0 Try.underlying30 hi (some ⟨g, 0, none⟩) 2 2 (by omega) _ ?_
      cases a with
      | none => rw [hz1]; exact Src.ofNil W Try.underlying30 cap
      | some a => rw [hz1]; exact Src.ofSlice W Try.underlying30 a 0 cap [] rfl (by simp) (by simp)
    · intro i hi
      refine ⟨g, 0, rfl, hB.lt, ?_⟩
      rw [hB.cell (0 + i)]
      match i, hi with
      | 0, _ => rfl
      | 1, _ => rfl
  · obtain ⟨b0, off, rfl, hb0, hc0⟩ := hR 0 (by omega)
    have hcs : ∀ i, i < n → W.cell? ⟨b0, off + i, none⟩ = some (.string (S i)) := by
      intro i hi
      obtain ⟨b1, off1, e, hb1, hc1⟩ := hR i hi
      injection e with e
      injection e with e1 e2 e3
      subst e1 e2
      exact hc1
    have hnews : ∀ j u, ((List.range n).map (fun i => Value.string (S i)))[j]? = some u → W.cell? ((⟨b0, off, none⟩ : Addr).add j) = some u := by
      intro j u hu
      rw [List.getElem?_map] at hu
      obtain ⟨k, hk, rfl⟩ := Option.map_eq_some_iff.1 hu
      obtain ⟨hjl, rfl⟩ := List.getElem?_eq_some_iff.1 hk
      have hjn : j < n := by simpa using hjl
      have hadd : (⟨b0, off, none⟩ : Addr).add j = ⟨b0, off + j, none⟩ := by unfold Addr.add; split <;> simp_all
      rw [hadd, hcs j hjn]
      simp
    have h1 : ∀ u ∈ (List.range n).map (fun i => Value.string (S i)), u.oneCell' = true := by
      intro u hu
      obtain ⟨_, _, rfl⟩ := List.mem_map.1 hu
      rfl
    obtain ⟨g', cap', w', hr, h2, h3, h4, h5⟩ := run_append_lies (P := Try.prog) W 30 ty g 9 i0 _ 1 16 Try.underlying30 hi hz0 hz1 hz2 rfl (by omega) _ 2 _ hown ⟨b0, off, none⟩ n cap ((List.range n).map (fun i => Value.string (S i))) (by simp) hnews h1 (by omega) (by unfold maxLen; omega) (by omega) (Nat.le_of_lt hB.lt) _ rfl
    refine ⟨_, _, w', hr, ?_, ⟨h3.os, h3.tape, h3.output, h3.size, fun k hk hne => h3.block k hk (fun e => hne (by injection e with e; simp [e]))⟩⟩
    rcases h2.2 with ⟨e, _⟩ | ⟨g2, cap2, cur, e, hb2, hg2, hle, hmx, hcs2, htk⟩
    · cases e
    · injection e with e e1 e2
      injection e with e
      injection e with e3
      subst e3
      intro i hi
      refine ⟨g', 0, rfl, h5, ?_⟩
      show w'.cell? ⟨g', 0 + i, none⟩ = some (.string (three b s S i))
      rw [cell_of_row w' g' (0 + i) cur _ _ hg2, Nat.zero_add]
      have : (cur.toList.take ((2 + n) * 1))[i]? = some (.string (three b s S i)) := by
        rw [htk]
        match i, hi with
        | 0, _ => rfl
        | 1, _ => rfl
        | i + 2, hi =>
          show ((List.range n).map (fun i => Value.string (S i)))[i]? = _
          have hin : i < n := by omega
          simp [hin, three]
      rw [List.getElem?_take] at this
      split at this
      · simpa using this
      · cases this
theorem append_strs {ops : Array Oper} {rest : List Oper} {o : Oper} {A : Act} {Q : Exit → Act → World → Prop} (W : World) (hgd : o.guard = none) (sl x : Operand)
    (ho : o.op = .call { callee := .builtin .append, args := #[sl, x], argTypes := #[30, 30] })
    (a : Option Addr) (n cap : Nat) (S : Nat → ByteArray) (b s : ByteArray) (g : Nat) (hs : A.eval sl = .slice (some ⟨g, 0, none⟩) 2 2) (hx : A.eval x = .slice a n cap)
    (hB : Blk W g [.string b, .string s] 9) (hn : n ≤ 1000000) (hR : RowAt W a n (fun i => .string (S i)))
    (h : ∀ a' cap' w', RowAt w' a' (2 + n) (fun i => .string (three b s S i)) → Keep [g] W w' → wpList Try.prog ops Q rest (A.put o.dst (.slice a' (2 + n) cap')) w') : wpList Try.prog ops Q (o :: rest) A W := by
  refine wpList_plain hgd fun K hK => ?_
  obtain ⟨a', cap', w', hr, h2, h3⟩ := run_append_strs W o.type a n cap S b s g hB hn hR
  unfold Oper.wp execOp
  simp only [ho, resolve, invoke, builtin, Sem.run_bind, Sem.run_pure, Result.andThen_ok, List.map_toArray, List.map_cons, List.map_nil, hs, hx, hr]
  exact hK _ _ (h _ _ _ h2 h3)
/-- What was saved so far: nothing yet, or the text of the guard's state; the one before is nothing or a text of the state before. -/
def Kept (b s : ByteArray) (G : Gs) (k : Nat) : Prop :=
  (s = ⟨#[]⟩ ∧ b = ⟨#[]⟩ ∧ G.ser = 0#64 ∧ ∀ i, i < 8 → G.l i = 0#64) ∨
  (s = ⟨(textL G).toArray⟩ ∧ G.ser.toNat ≤ k ∧ 0 < G.ser.toNat ∧ (b = ⟨#[]⟩ ∨ ∃ G0, b = ⟨(textL G0).toArray⟩ ∧ G0.ser.toNat < G.ser.toNat))
theorem empty_saved : isSaved (⟨#[]⟩ : ByteArray).data.toList = false := rfl
theorem bestK_skip (S : Nat → ByteArray) (k : Nat) (h : isSaved (S k).data.toList = false) : bestK S (k + 1) = bestK S k := by
  show (if (isSaved (S k).data.toList && _) = true then _ else _) = _
  rw [h, Bool.false_and, if_neg Bool.false_ne_true]
theorem bestK_new (S : Nat → ByteArray) (k : Nat) (n : BitVec 64) (h : isSaved (S k).data.toList = true) (hn : (readL (S k).data.toList).ser = n) (hc : (bestK S k).1 < 0 ∨ (bestK S k).2.toNat < n.toNat) : bestK S (k + 1) = ((k : Int), n) := by
  show (if (isSaved (S k).data.toList && (decide ((bestK S k).1 < 0) || decide ((bestK S k).2.toNat < (readL (S k).data.toList).ser.toNat))) = true then ((k : Int), (readL (S k).data.toList).ser) else bestK S k) = _
  rw [h, hn, if_pos]
  rcases hc with h | h
  · rw [decide_eq_true h]; rfl
  · rw [decide_eq_true h, Bool.or_true]; rfl
theorem bestK_none (S : Nat → ByteArray) (m : Nat) : ∀ n, (∀ i, m ≤ i → i < m + n → isSaved (S i).data.toList = false) → bestK S (m + n) = bestK S m
  | 0, _ => rfl
  | n + 1, h => (bestK_skip S (m + n) (h (m + n) (by omega) (by omega))).trans (bestK_none S m n (fun i h1 h2 => h i h1 (by omega)))
theorem kept_restV (b s : ByteArray) (G : Gs) (k n : Nat) (S : Nat → ByteArray) (hK : Kept b s G k) (hS : ∀ i, i < n → isSaved (S i).data.toList = false) :
    (s = ⟨#[]⟩ ∧ restV (three b s S) (2 + n) = .tuple #[.string s, .int .i64 (-1)]) ∨ (restV (three b s S) (2 + n) = .tuple #[.string s, .int .i64 1]) := by
  have hb := bestK_none (three b s S) 2 n (fun i h1 h2 => by
    have : three b s S i = S (i - 2) := by unfold three; rw [if_neg (by omega), if_neg (by omega)]
    rw [this]
    exact hS _ (by omega))
  unfold restV
  rw [hb]
  rcases hK with ⟨rfl, rfl, -, -⟩ | ⟨rfl, -, hpos, hb0⟩
  · left
    have e : bestK (three ⟨#[]⟩ ⟨#[]⟩ S) 2 = bestK (three ⟨#[]⟩ ⟨#[]⟩ S) 0 := (bestK_skip _ 1 empty_saved).trans (bestK_skip _ 0 empty_saved)
    rw [e]
    exact ⟨rfl, rfl⟩
  · right
    have h1 : (bestK (three b ⟨(textL G).toArray⟩ S) 1).1 < 0 ∨ (bestK (three b ⟨(textL G).toArray⟩ S) 1).2.toNat < G.ser.toNat := by
      rcases hb0 with rfl | ⟨G0, rfl, hlt⟩
      · left
        rw [show bestK (three ⟨#[]⟩ ⟨(textL G).toArray⟩ S) 1 = _ from bestK_skip _ 0 empty_saved]
        show (-1 : Int) < 0
        decide
      · right
        rw [show bestK (three ⟨(textL G0).toArray⟩ ⟨(textL G).toArray⟩ S) 1 = _ from bestK_new _ 0 G0.ser (saved_text G0) (read_text G0).1 (.inl (by show (-1 : Int) < 0; decide))]
        exact hlt
    rw [show bestK (three b ⟨(textL G).toArray⟩ S) 2 = _ from bestK_new _ 1 G.ser (saved_text G) (read_text G).1 h1]
    rfl
end Go.Proofs.Ytincoocagfegfaa
