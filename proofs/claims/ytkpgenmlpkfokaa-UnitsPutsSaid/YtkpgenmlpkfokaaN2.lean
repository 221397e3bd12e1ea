/- What is proved here: walks of Grow and Concat of slices of bytes. -/
import Derived.Test.YtkpgenmlpkfokaaN1
set_option linter.unusedVariables false
set_option linter.unusedSimpArgs false
namespace Go.Proofs.Ytkpgenmlpkfokaa
open Go.RowKit
open Go.RowKit
section
variable (P : Program)
/-- A number of zero bytes is appended to nil. -/
theorem run_append_zeros {P : Program} (t u ty : TypeId) (i : TypeInfo) (ht : P.underlying t = some (.slice 5)) (hu : P.underlying u = some (.int .i64))
    (hi : P.info? 5 = some i) (hz : i.zero = some (.int .u8 0)) (hsize : i.size = 1) (hby : i.bytes = 1) (w : World) (n : Nat) (h1 : 1 ≤ n) (h2 : n ≤ 1000000) :
    ∃ X : Array Value, X.size = grownCap w n 0 5 ∧ (Builtin.append_ #[t, u] ty #[.slice none 0 0, .int .i64 (n : Int)]).run P w = .ok (.slice (some ⟨w.heap.size, 0, none⟩) n (grownCap w n 0 5)) (w.drew.alloc (.cells X 5)) := by
  have hge := grownCap_ge w n 0 5
  have hw : IntKind.i64.wrap (n : Int) = n := by rw [IntKind.wrap_i64]; omega
  have h3 : ¬ ((n : Int) < 0) := by omega
  have h4 : ¬ (281474976710656 < (n : Int) * 1) := by omega
  have h5 : ¬ (n = 0) := by omega
  have h6 : ¬ ((n : Int) ≤ 0) := by omega
  have h7 : max (n : Int) 0 = n := by omega
  have h8 : ¬ (281474976710656 < (n : Int)) := by omega
  have h63' : ¬ (9223372036854775807 < (n : Int)) := by omega
  have h48' : ¬ (281474976710656 < Builtin.nextslicecap n 0) := by
    have := growslice_fits (need := n) (old := 0) (bytes := i.bytes) (by omega) (by rw [hby]; omega)
    rw [hby] at this; omega
  refine ⟨Builtin.zeroCells (Value.int .u8 0).cells n ++ Builtin.zeroCells (Value.int .u8 0).cells (grownCap w n 0 5 - n), ?_, ?_⟩
  · have hz1 : (Value.int IntKind.u8 0).cells.size = 1 := rfl
    simp only [Array.size_append, size_zeroCells, hz1]; omega
  · simp [Builtin.append_, run_underlying ht, run_underlying hu, sizeOf, typeInfo, zeroValue, hi, hz, hsize, hby, asInt, asIntOf, hw, h3, h4, h5, h6, h7, h8, h63', h48', Question.forced, Builtin.firstCells, newRow, grownCap]
end
theorem append_zeros {ops : Array Oper} {rest : List Oper} {o : Oper} {a : Act} {Q : Exit → Act → World → Prop} (w : World) (hgd : o.guard = none) (s x : Operand)
    (ho : o.op = .call { callee := .builtin .append, args := #[s, x], argTypes := #[48, 3] }) (n : Nat) (h1 : 1 ≤ n) (h2 : n ≤ 1000000) (hs : a.eval s = .slice none 0 0) (hx : a.eval x = .int .i64 (n : Int))
    (h : ∀ X : Array Value, n ≤ X.size → X.size ≤ maxLen → wpList Try.prog ops Q rest (a.put o.dst (.slice (some ⟨w.heap.size, 0, none⟩) n X.size)) (w.drew.alloc (.cells X 5))) : wpList Try.prog ops Q (o :: rest) a w := by
  obtain ⟨i0, hi, hz0, hz1, hz2⟩ := info_parts info_u8
  refine wpList_plain hgd fun K hK => ?_
  obtain ⟨X, hX, hr⟩ := run_append_zeros 48 3 o.type i0 Try.underlying48 Try.underlying3 hi hz0 hz1 hz2 w n h1 h2
  unfold Oper.wp execOp
  simp only [ho, resolve, invoke, builtin, Sem.run_bind, Sem.run_pure, Result.andThen_ok, List.map_toArray, List.map_cons, List.map_nil, hs, hx, hr]
  rw [← hX]
  exact hK _ _ (h X (by rw [hX]; exact grownCap_ge w n 0 _) (by rw [hX]; exact grownCap_le_maxLen w n 0 _ (by unfold maxLen; omega)))
set_option maxHeartbeats 2000000 in
set_option maxRecDepth 100000 in
theorem Grow_any (n : Nat) (w : World) (h1 : 1 ≤ n) (h2 : n ≤ 1000000) :
    Calls Try.prog 71 #[.slice none 0 0, .int .i64 (n : Int)] w fun e w' => ∃ v', e = .returned v' ∧ Row w' w.heap.size v' [] ∧ Below w.heap.size w w' := by
  go_enter Try.func71, Try.ntmps71
  go_wp2_with (at_builtin; refine append_zeros _ rfl _ _ rfl n h1 h2 rfl rfl ?_)
  intro X hc1 hc2
  go_wp2_with fail
  go_ret
  exact ⟨_, rfl, .inr ⟨w.heap.size, X.size, X, (0, 0), rfl, Nat.le_refl _, heap_alloc_new w.drew _, .inl rfl, by simp, hc2, rfl, by simp⟩, (Below.refl _ _).drew.alloc (Nat.le_refl _) _⟩
theorem flat_snoc (X : Nat → List UInt8) (k : Nat) : (List.range (k + 1)).flatMap X = (List.range k).flatMap X ++ X k := by rw [List.range_succ, List.flatMap_append]; simp
theorem flat_le (X : Nat → List UInt8) (n : Nat) : ∀ k, k ≤ n → ((List.range k).flatMap X).length ≤ ((List.range n).flatMap X).length := by
  intro k hk
  induction n with
  | zero => obtain rfl : k = 0 := by omega
            exact Nat.le_refl _
  | succ n ih =>
    by_cases h : k = n + 1
    · subst h; exact Nat.le_refl _
    · have := ih (by omega); rw [flat_snoc, List.length_append]; omega
/-- Rows of bytes in cells that follow each other. -/
def RowsIn (w : World) (b base n : Nat) (V : Nat → Value) (X : Nat → List UInt8) : Prop := ∀ i, i < n → w.cell? ⟨b, i, none⟩ = some (V i) ∧ Row w base (V i) (X i)
set_option maxHeartbeats 4000000 in
set_option maxRecDepth 100000 in
theorem Concat_any (b base n cap : Nat) (V : Nat → Value) (X : Nat → List UInt8) (w : World) (hb : b < w.heap.size) (hn : 1 ≤ n) (hn2 : n ≤ 1000000) (hR : RowsIn w b base n V X) (h1 : 1 ≤ ((List.range n).flatMap X).length) (h2 : ((List.range n).flatMap X).length ≤ 1000000) :
    Calls Try.prog 51 #[.slice (some ⟨b, 0, none⟩) n cap] w fun e w' => ∃ v', e = .returned v' ∧ Row w' w.heap.size v' ((List.range n).flatMap X) ∧ Below w.heap.size w w' := by
  have HR := Lib.hid hR
  have HF := Lib.hid (flat_le X n)
  clear hR
  go_enter Try.func51, Try.ntmps51
  go_wp2_with fail
  go_loopw [3, 11] (fun sv iv wr => ∃ (k s : Nat), k ≤ n ∧ iv = .int .i64 k ∧ sv = .int .i64 s ∧ Hid (s = ((List.range k).flatMap X).length) ∧ w = wr) (fun _ i _ => n - (intOf i).toNat)
  case atStart => exact ⟨0, 0, by omega, rfl, rfl, Lib.hid rfl, rfl⟩
  case round =>
    obtain ⟨k, s, hk, rfl, rfl, hs, rfl⟩ := hrel
    by_cases hlt : k < n
    · obtain ⟨c0, r0⟩ := HR.out k hlt
      obtain ⟨x, hx⟩ : ∃ x, x = X k := ⟨_, rfl⟩
      have hle := HF.out (k + 1) hlt
      have hsn := flat_snoc X k
      rw [← hx] at hsn r0
      obtain ⟨a, c, hv⟩ := row_form r0
      rw [hv] at c0
      have hs2 : s + x.length = ((List.range (k + 1)).flatMap X).length := by rw [hsn, List.length_append, ← hs.out]
      have hsl : s + x.length ≤ 1000000 := by omega
      have HS := Lib.hid hs2
      clear hs2 hx hsn hv r0 hle
      go_wp2_with fail
      go_roundw
      case rel => exact ⟨k + 1, s + x.length, by omega, by go_num, by go_num, HS, by first | rfl | trivial⟩
      case measure => simp [intOf]; omega
    · obtain rfl : k = n := by omega
      have hs1 : 1 ≤ s := by rw [hs.out]; exact h1
      have hs2 : s ≤ 1000000 := by rw [hs.out]; exact h2
      clear h1 h2
      go_wp2_with fail
      refine (Grow_any s _ hs1 hs2).mono ?_
      rintro e w1 ⟨v1, rfl, hR1, hL1⟩
      have HR1 := Lib.hid hR1
      have HL1 := Lib.hid hL1
      clear hR1 hL1
      go_wp2_with fail
      go_loopw [6, 27] (fun bv iv wx => ∃ j : Nat, j ≤ k ∧ iv = .int .i64 j ∧ Row wx w.heap.size bv ((List.range j).flatMap X) ∧ Below w.heap.size w wx) (fun _ i _ => k - (intOf i).toNat)
      case atStart => exact ⟨0, by omega, rfl, HR1.out, HL1.out⟩
      case round =>
        clear HR1 HL1
        obtain ⟨j, hj, rfl, hR, hL⟩ := hrel
        have HRj := Lib.hid hR; have HLj := Lib.hid hL; clear hR hL
        by_cases hjk : j < k
        · obtain ⟨c0, r0⟩ := HR.out j hjk
          have c1 := (HLj.out.cell (p := ⟨b, j, none⟩) hb).trans c0
          have r1 := row_below r0 HLj.out (Nat.le_refl _)
          have hle := HF.out (j + 1) hjk
          have HSN := Lib.hid (flat_snoc X j)
          rw [HSN.out, List.length_append] at hle
          have hls : ((List.range k).flatMap X).length ≤ 1000000 := by rw [← hs.out]; exact hs2
          obtain ⟨l, hl⟩ : ∃ l, l = (List.range j).flatMap X := ⟨_, rfl⟩
          rw [← hl] at HRj HSN hle
          obtain ⟨xv, hxv⟩ : ∃ x, x = V j := ⟨_, rfl⟩
          obtain ⟨xl, hxl⟩ : ∃ x, x = X j := ⟨_, rfl⟩
          rw [← hxv] at c1
          rw [← hxv, ← hxl] at r1
          rw [← hxl] at HSN hle
          have hlx : l.length + xl.length ≤ 1000000 := by omega
          obtain ⟨a2, c2, rfl⟩ := row_form HRj.out
          obtain ⟨a3, c3, rfl⟩ := row_form r1
          have HR1 := Lib.hid r1
          have hbs := HLj.out.size
          clear hl hxv hxl c0 r0 r1 hle hls
          go_wp2_with (at_builtin; refine append_slice _ rfl _ _ rfl w.heap.size _ _ rfl HRj.out base _ _ rfl HR1.out ?c1 ?c2 ?_)
          case c1 => omega
          case c2 => exact hbs
          intro v2 w2 hR2 hK2
          have HL2 := Lib.hid (HLj.out.trans (hK2.toBelowAt hbs (fun i hi => by rw [Option.mem_toList] at hi; exact (row_lt HRj.out i hi).1)))
          have HR2 := Lib.hid hR2
          clear hR2 hK2 HRj HLj
          go_wp2_with fail
          go_roundw
          case rel => exact ⟨j + 1, by omega, by go_num, by rw [HSN.out]; exact HR2.out, HL2.out⟩
          case measure => simp [intOf]; omega
        · obtain rfl : j = k := by omega
          go_wp2_with fail
          go_ret
          exact ⟨_, rfl, HRj.out, HLj.out⟩
end Go.Proofs.Ytkpgenmlpkfokaa
