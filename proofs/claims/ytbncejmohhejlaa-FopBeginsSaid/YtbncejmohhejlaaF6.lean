/- What is proved here: the walk of PutWord. -/
import Derived.Test.YtbncejmohhejlaaF4
import Derived.Laws.IdiomRangeMap
import Derived.WideMake
import Derived.Maps.RangeRun
set_option linter.unusedVariables false
set_option linter.unusedSimpArgs false
namespace Go.Proofs.Ytbncejmohhejlaa
open Go.RowKit
def Wd.good (x : Wd) : Bool := decide (0 ≤ x.chan ∧ x.chan ≤ 7 ∧ 0 ≤ x.bypd ∧ x.bypd ≤ 3 ∧ 0 ≤ x.next ∧ x.next ≤ 255)
theorem map_ins (w : World) (es : Array MapEntry) (clock : Nat) (k : Int) (val : Value) (hf : Instr.findNow (.int .u32) (.int .u32 k) es.toList 0 = some none) (g : Nat) (hg : w.heap.size = g) :
   (Instr.mapUpdate 116 (.map (some g)) (.int .u32 k) val).run Try.prog (w.alloc (.map es clock)) = .ok () (w.alloc (.map (es.push { key := .int .u32 k, val := val, born := clock }) (clock + 1))) := by
  subst hg
  have hb : (w.alloc (.map es clock)).heap[w.heap.size]? = some (.map es clock) := heap_alloc_new w _
  have hc : (Instr.checkKey false 10000 38 (.int .u32 k)).run Try.prog (w.alloc (.map es clock)) = .ok () (w.alloc (.map es clock)) := MapKept.run_checkKey (k := .int .u32 k) Try.underlying38 (by simp [MapKept.IsKey]) false 9999
  have hp : ∀ (h : Array Obj) (x y : Obj), (h.push x).setIfInBounds h.size y = h.push y := by
    intro h x y
    apply Array.toList_inj.1
    simp
  simp [Instr.mapUpdate, run_underlying Try.underlying116, MapKept.run_getObj_map hb, hc, MapKept.run_findKey Try.underlying38 hf, MapKept.run_setObj_map _ hb, Result.andThen]
  show ({ w with heap := (w.heap.push _).setIfInBounds w.heap.size _ } : World) = { w with heap := w.heap.push _ }
  rw [hp]
/-- The map of the three flags. -/
def flagsOf (lo wa re : Bool) : Array MapEntry := #[{ key := .int .u32 32768, val := .bool lo, born := 0 }, { key := .int .u32 16384, val := .bool wa, born := 1 }, { key := .int .u32 8192, val := .bool re, born := 2 }]
theorem map_made (w : World) (g : Nat) (hg : w.heap.size = g) : (Instr.makeMap 116 none).run Try.prog w = .ok (.map (some g)) (w.alloc (.map #[] 0)) := by rw [← hg]; exact run_makeMap_plain w _
def bn (b : Bool) : Nat := if b then 1 else 0
def wordN (ch by_ nx : Nat) (x y z : Bool) : Nat := (256 + ch) * 65536 + (by_ + 128 * bn x + 64 * bn y + 32 * bn z) * 256 + nx
theorem or_nat (a b k : Nat) (hb : b < 2 ^ k) : a * 2 ^ k ||| b = a * 2 ^ k + b := by
  rw [← Nat.shiftLeft_eq, Nat.shiftLeft_add_eq_or_of_lt hb]
theorem or_u32 (a b : Nat) (ha : a < 4294967296) (hb : b < 4294967296) : bits .or .u32 (a : Int) (b : Int) = ((a ||| b : Nat) : Int) := by
  have e1 : ((a : Nat) : Int) = w32 (BitVec.ofNat 32 a) := by rw [w32_ofNat]; omega
  have e2 : ((b : Nat) : Int) = w32 (BitVec.ofNat 32 b) := by rw [w32_ofNat]; omega
  rw [e1, e2, w32_or]
  have : BitVec.ofNat 32 a ||| BitVec.ofNat 32 b = BitVec.ofNat 32 (a ||| b) := by
    apply BitVec.eq_of_toNat_eq
    simp only [BitVec.toNat_or, BitVec.toNat_ofNat]
    rw [Nat.mod_eq_of_lt (show a < 2 ^ 32 by omega), Nat.mod_eq_of_lt (show b < 2 ^ 32 by omega), Nat.mod_eq_of_lt (Nat.or_lt_two_pow (show a < 2 ^ 32 by omega) (show b < 2 ^ 32 by omega))]
  rw [this, w32_ofNat, Nat.mod_eq_of_lt]
  exact Nat.or_lt_two_pow (n := 32) (by omega) (by omega)
theorem or_mid (A b nx f : Nat) (hb : b < 256) (hf : f < 256) (hn : nx < 256) : (A * 65536 + b * 256 + nx) ||| (f * 256) = A * 65536 + (b ||| f) * 256 + nx := by
  have hbf : b ||| f < 256 := Nat.or_lt_two_pow (n := 8) hb hf
  have h1 := or_nat A (b * 256 + nx) 16 (by omega)
  have h2 := or_nat b nx 8 (by omega)
  have h3 := or_nat A ((b ||| f) * 256 + nx) 16 (by omega)
  have h4 := or_nat (b ||| f) nx 8 (by omega)
  simp only [Nat.reducePow] at h1 h2 h3 h4
  have h5 : (b * 256 ||| nx) ||| f * 256 = (b ||| f) * 256 ||| nx := by
    have : (b ||| f) * 256 = b * 256 ||| f * 256 := by
      have := Nat.shiftLeft_or_distrib (a := b) (b := f) (i := 8)
      simpa [Nat.shiftLeft_eq] using this
    rw [this, Nat.or_assoc, Nat.or_comm nx, ← Nat.or_assoc]
  rw [Nat.add_assoc, ← h1, ← h2, Nat.or_assoc, h5, h4, h3, Nat.add_assoc]
theorem or_f0 : ∀ b < 4, ∀ y z : Bool, (b + 128 * bn false + 64 * bn y + 32 * bn z) ||| 128 = b + 128 * bn true + 64 * bn y + 32 * bn z := by decide
theorem or_f1 : ∀ b < 4, ∀ y z : Bool, (b + 128 * bn y + 64 * bn false + 32 * bn z) ||| 64 = b + 128 * bn y + 64 * bn true + 32 * bn z := by decide
theorem or_f2 : ∀ b < 4, ∀ y z : Bool, (b + 128 * bn y + 64 * bn z + 32 * bn false) ||| 32 = b + 128 * bn y + 64 * bn z + 32 * bn true := by decide
theorem bn_le (b : Bool) : bn b ≤ 1 := by cases b <;> simp [bn]
theorem wordN_lt (ch by_ nx : Nat) (x y z : Bool) (h1 : ch ≤ 7) (h2 : by_ ≤ 3) (h3 : nx ≤ 255) : wordN ch by_ nx x y z < 4294967296 := by
  have := bn_le x; have := bn_le y; have := bn_le z; unfold wordN; omega
theorem flag0 (ch by_ nx : Nat) (y z : Bool) (h1 : ch ≤ 7) (h2 : by_ ≤ 3) (h3 : nx ≤ 255) : bits .or .u32 (wordN ch by_ nx false y z) 32768 = (wordN ch by_ nx true y z : Nat) := by
  have h := or_u32 (wordN ch by_ nx false y z) 32768 (wordN_lt _ _ _ _ _ _ h1 h2 h3) (by omega)
  rw [show ((32768 : Nat) : Int) = 32768 from rfl] at h
  rw [h]; congr 1
  have := bn_le y; have := bn_le z
  have e := or_mid (256 + ch) (by_ + 128 * bn false + 64 * bn y + 32 * bn z) nx 128 (by have : bn false = 0 := rfl; omega) (by omega) (by omega)
  unfold wordN
  rw [show (32768 : Nat) = 128 * 256 from rfl, e, or_f0 by_ (by omega)]
theorem flag1 (ch by_ nx : Nat) (x z : Bool) (h1 : ch ≤ 7) (h2 : by_ ≤ 3) (h3 : nx ≤ 255) : bits .or .u32 (wordN ch by_ nx x false z) 16384 = (wordN ch by_ nx x true z : Nat) := by
  have h := or_u32 (wordN ch by_ nx x false z) 16384 (wordN_lt _ _ _ _ _ _ h1 h2 h3) (by omega)
  rw [show ((16384 : Nat) : Int) = 16384 from rfl] at h
  rw [h]; congr 1
  have := bn_le x; have := bn_le z
  have e := or_mid (256 + ch) (by_ + 128 * bn x + 64 * bn false + 32 * bn z) nx 64 (by have : bn false = 0 := rfl; omega) (by omega) (by omega)
  unfold wordN
  rw [show (16384 : Nat) = 64 * 256 from rfl, e, or_f1 by_ (by omega)]
theorem flag2 (ch by_ nx : Nat) (x y : Bool) (h1 : ch ≤ 7) (h2 : by_ ≤ 3) (h3 : nx ≤ 255) : bits .or .u32 (wordN ch by_ nx x y false) 8192 = (wordN ch by_ nx x y true : Nat) := by
  have h := or_u32 (wordN ch by_ nx x y false) 8192 (wordN_lt _ _ _ _ _ _ h1 h2 h3) (by omega)
  rw [show ((8192 : Nat) : Int) = 8192 from rfl] at h
  rw [h]; congr 1
  have := bn_le x; have := bn_le y
  have e := or_mid (256 + ch) (by_ + 128 * bn x + 64 * bn y + 32 * bn false) nx 32 (by have : bn false = 0 := rfl; omega) (by omega) (by omega)
  unfold wordN
  rw [show (8192 : Nat) = 32 * 256 from rfl, e, or_f2 by_ (by omega)]
set_option maxRecDepth 100000 in
theorem or_base (ch by_ nx : Nat) (h1 : ch ≤ 7) (h2 : by_ ≤ 3) (h3 : nx ≤ 255) : bits .or .u32 (bits .or .u32 (bits .or .u32 16777216 ((ch : Int) * 65536)) ((by_ : Int) * 256)) (nx : Int) = (wordN ch by_ nx false false false : Nat) := by
  have a1 := or_u32 16777216 (ch * 65536) (by omega) (by omega)
  have b1 := or_nat 1 (ch * 65536) 24 (by omega)
  simp only [Nat.reducePow, Nat.one_mul] at b1
  rw [b1, show (((16777216 : Nat)) : Int) = 16777216 from rfl, show ((ch * 65536 : Nat) : Int) = (ch : Int) * 65536 by simp] at a1
  have a2 := or_u32 (16777216 + ch * 65536) (by_ * 256) (by omega) (by omega)
  have b2 := or_nat (256 + ch) (by_ * 256) 16 (by omega)
  simp only [Nat.reducePow] at b2
  rw [show 16777216 + ch * 65536 = (256 + ch) * 65536 by omega, b2, show ((by_ * 256 : Nat) : Int) = (by_ : Int) * 256 by simp] at a2
  have a3 := or_u32 ((256 + ch) * 65536 + by_ * 256) nx (by omega) (by omega)
  have b3 := or_nat ((256 + ch) * 256 + by_) nx 8 (by omega)
  simp only [Nat.reducePow] at b3
  rw [show (256 + ch) * 65536 + by_ * 256 = ((256 + ch) * 256 + by_) * 256 by omega, b3] at a3
  rw [a1, show ((16777216 + ch * 65536 : Nat) : Int) = (((256 + ch) * 65536 : Nat) : Int) by omega, a2, show (((256 + ch) * 65536 + by_ * 256 : Nat) : Int) = ((((256 + ch) * 256 + by_) * 256 : Nat) : Int) by omega, a3]
  congr 1
  simp only [wordN, bn]
  simp; omega
/-- The iterator's world. -/
def It (w wr : World) (es : Array MapEntry) (seen : Array Nat) : Prop := Below w.heap.size w wr ∧ w.heap.size + 2 < wr.heap.size ∧ wr.heap[w.heap.size + 2]? = some (.mapIter (some (w.heap.size + 1)) 3 seen 3) ∧ wr.heap[w.heap.size + 1]? = some (.map es 3)
theorem It.drew {w wr : World} {es : Array MapEntry} {seen : Array Nat} (h : It w wr es seen) : It w wr.drew es seen := ⟨h.1.drew, h.2.1, h.2.2.1, h.2.2.2⟩
theorem It.set {w wr : World} {es : Array MapEntry} {seen : Array Nat} (h : It w wr es seen) (s' : Array Nat) : It w (Go.ChangeMaps.setBlock wr (w.heap.size + 2) (.mapIter (some (w.heap.size + 1)) 3 s' 3)) es s' := by
  obtain ⟨h1, h2, h3, h4⟩ := h
  refine ⟨⟨h1.os, h1.tape, h1.output, ?_, ?_⟩, ?_, ?_, ?_⟩
  · show w.heap.size ≤ (wr.heap.setIfInBounds _ _).size
    simpa using h1.size
  · intro k hk
    show (wr.heap.setIfInBounds _ _)[k]? = _
    rw [Array.getElem?_setIfInBounds_ne (by omega)]
    exact h1.block k hk
  · show _ < (wr.heap.setIfInBounds _ _).size
    simpa using h2
  · show (wr.heap.setIfInBounds _ _)[w.heap.size + 2]? = _
    rw [Array.getElem?_setIfInBounds_self_of_lt h2]
  · show (wr.heap.setIfInBounds _ _)[w.heap.size + 1]? = _
    rw [Array.getElem?_setIfInBounds_ne (by omega)]
    exact h4
theorem It.seen {w wr : World} {es : Array MapEntry} {seen : Array Nat} (h : It w wr es seen) : wr.iterSeen (w.heap.size + 2) = seen := by
  unfold World.iterSeen; rw [h.2.2.1]
theorem flags_left (lo wa re : Bool) (seen : Array Nat) (e : MapEntry) (he : e ∈ (leftOf (flagsOf lo wa re) seen).toList) :
    (e = { key := .int .u32 32768, val := .bool lo, born := 0 } ∧ seen.contains 0 = false) ∨ (e = { key := .int .u32 16384, val := .bool wa, born := 1 } ∧ seen.contains 1 = false) ∨ (e = { key := .int .u32 8192, val := .bool re, born := 2 } ∧ seen.contains 2 = false) := by
  obtain ⟨h1, h2⟩ := mem_left he
  simp only [flagsOf, List.mem_cons, List.not_mem_nil, or_false] at h1
  rcases h1 with rfl | rfl | rfl
  · exact .inl ⟨rfl, h2⟩
  · exact .inr (.inl ⟨rfl, h2⟩)
  · exact .inr (.inr ⟨rfl, h2⟩)
theorem flags_none (lo wa re : Bool) (seen : Array Nat) (h : (leftOf (flagsOf lo wa re) seen).size = 0) : seen.contains 0 = true ∧ seen.contains 1 = true ∧ seen.contains 2 = true := by
  have h0 : leftOf (flagsOf lo wa re) seen = #[] := Array.eq_empty_of_size_eq_zero h
  unfold leftOf at h0
  rw [Array.filter_eq_empty_iff] at h0
  simp only [flagsOf] at h0
  refine ⟨?_, ?_, ?_⟩
  · simpa using h0 { key := .int .u32 32768, val := .bool lo, born := 0 } (by simp)
  · simpa using h0 { key := .int .u32 16384, val := .bool wa, born := 1 } (by simp)
  · simpa using h0 { key := .int .u32 8192, val := .bool re, born := 2 } (by simp)
theorem seen_push (seen : Array Nat) (b k : Nat) : (seen.push b).contains k = (seen.contains k || k == b) := contains_push seen b k
set_option maxHeartbeats 4000000 in
set_option maxRecDepth 100000 in
theorem PutWord_ok (ch by_ nx : Nat) (lo wa re : Bool) (w : World) (h1 : ch ≤ 7) (h2 : by_ ≤ 3) (h3 : nx ≤ 255) : Calls Try.prog 44 #[(Wd.mk ch lo wa re by_ nx).val] w fun e w' => e = .returned (.tuple #[.int .u32 (wordN ch by_ nx lo wa re : Nat), .int .i64 0]) ∧ Below w.heap.size w w' := by
  have d1 : decide ((ch : Int) < 0) = false := by simp
  have d2 : decide (8 ≤ (ch : Int)) = false := by simp; omega
  have d3 : decide ((by_ : Int) < 0) = false := by simp
  have d4 : decide (3 < (by_ : Int)) = false := by simp; omega
  have d5 : decide ((nx : Int) < 0) = false := by simp
  have d6 : decide (255 < (nx : Int)) = false := by simp; omega
  have hsz : (w.alloc (.cells #[.int .i64 ch, .bool lo, .bool wa, .bool re, .int .i64 by_, .int .i64 nx] 35)).heap.size = w.heap.size + 1 := by simp
  have m0 := map_made (w.alloc (.cells #[.int .i64 ch, .bool lo, .bool wa, .bool re, .int .i64 by_, .int .i64 nx] 35)) (w.heap.size + 1) hsz
  have m1 := map_ins (w.alloc (.cells #[.int .i64 ch, .bool lo, .bool wa, .bool re, .int .i64 by_, .int .i64 nx] 35)) #[] 0 32768 (.bool lo) rfl (w.heap.size + 1) hsz
  have m2 := map_ins (w.alloc (.cells #[.int .i64 ch, .bool lo, .bool wa, .bool re, .int .i64 by_, .int .i64 nx] 35)) #[{ key := .int .u32 32768, val := .bool lo, born := 0 }] 1 16384 (.bool wa) (by kernel_rfl) (w.heap.size + 1) hsz
  have m3 := map_ins (w.alloc (.cells #[.int .i64 ch, .bool lo, .bool wa, .bool re, .int .i64 by_, .int .i64 nx] 35)) #[{ key := .int .u32 32768, val := .bool lo, born := 0 }, { key := .int .u32 16384, val := .bool wa, born := 1 }] 2 8192 (.bool re) (by kernel_rfl) (w.heap.size + 1) hsz
  simp only [List.push_toArray, List.cons_append, List.nil_append, Nat.reduceAdd] at m1 m2 m3
  obtain ⟨V, hV⟩ : ∃ V, V = (w.alloc (.cells #[.int .i64 ch, .bool lo, .bool wa, .bool re, .int .i64 by_, .int .i64 nx] 35)).alloc (.map (flagsOf lo wa re) 3) := ⟨_, rfl⟩
  have hVs : V.heap.size = w.heap.size + 2 := by rw [hV]; simp
  have hVb : V.heap[w.heap.size + 1]? = some (.map (flagsOf lo wa re) 3) := by rw [hV, ← hsz]; exact heap_alloc_new _ _
  have hVL : Below w.heap.size w V := by rw [hV]; exact ((Below.refl _ _).alloc (Nat.le_refl _) _).alloc (by simp) _
  unfold flagsOf at hV
  rw [← hV] at m3
  have hr := run_range_map (P := Try.prog) V 116 38 4 (w.heap.size + 1) (flagsOf lo wa re) 3 Try.underlying116 hVb
  rw [hVs] at hr
  have HOB := or_base ch by_ nx h1 h2 h3
  have HVS := Lib.hid hVs; have HVB := Lib.hid hVb; have HVL := Lib.hid hVL
  clear hsz hV hVs hVb hVL
  simp only [Wd.val]
  go_enter Try.func44, Try.ntmps44
  go_wp2_with fail
  clear m0 m1 m2 m3 hr HOB d1 d2 d3 d4 d5 d6
  go_loopw [4] (fun s wr => ∃ seen : Array Nat, It w wr (flagsOf lo wa re) seen ∧ s = .int .u32 (wordN ch by_ nx (seen.contains 0 && lo) (seen.contains 1 && wa) (seen.contains 2 && re) : Nat)) (fun _ wr => (leftOf (flagsOf lo wa re) (wr.iterSeen (w.heap.size + 2))).size)
  case atStart =>
    refine ⟨#[], ⟨HVL.out.alloc (by rw [HVS.out]; omega) _, by simp [HVS.out], ?_, ?_⟩, by simp⟩
    · rw [← HVS.out]; exact heap_alloc_new _ _
    · rw [heap_alloc_old _ _ (by rw [HVS.out]; omega)]; exact HVB.out
  case round =>
    obtain ⟨seen, hI, rfl⟩ := hrel
    have law := run_next_at (P := Try.prog) wr 0 (w.heap.size + 2) (w.heap.size + 1) 3 3 seen (flagsOf lo wa re) 3 hI.2.2.1 hI.2.2.2 (by simp [flagsOf]) (Nat.le_refl _)
    have HI := Lib.hid hI; clear hI
    rcases law with ⟨h0, hrun⟩ | ⟨e, he, w2, hal2, hrun⟩
    · have hnx : ∀ ty, (Instr.next (.pointer (some ⟨w.heap.size + 2, 0, none⟩)) false ty).run Try.prog wr = _ := fun _ => hrun
      clear hrun
      obtain ⟨s0, s1, s2⟩ := flags_none _ _ _ _ h0
      rw [s0, s1, s2]
      clear s0 s1 s2 h0
      go_wp2_with fail
      go_ret2
      exact ⟨by simp, HI.out.1⟩
    · have hI2 : It w w2 (flagsOf lo wa re) seen := by rcases hal2 with rfl | rfl; exact HI.out; exact HI.out.drew
      have hI3 := hI2.set (seen.push e.born)
      have hen := run_entry_at (P := Try.prog) _ (w.heap.size + 2) (w.heap.size + 1) 3 seen (flagsOf lo wa re) 3 e hI3.2.2.1 hI3.2.2.2 (mem_left he).1 (by simp [flagsOf])
      have hsh := left_shrinks (flagsOf lo wa re) seen e he
      obtain ⟨w3, hw3⟩ : ∃ w3, w3 = Go.ChangeMaps.setBlock w2 (w.heap.size + 2) (.mapIter (some (w.heap.size + 1)) 3 (seen.push e.born) 3) := ⟨_, rfl⟩
      rw [← hw3] at hI3 hrun hen
      clear hw3 hal2 hI2
      have HI3 := Lib.hid hI3; clear hI3
      have HSH := Lib.hid hsh; clear hsh
      rcases flags_left _ _ _ _ _ he with ⟨rfl, hs⟩ | ⟨rfl, hs⟩ | ⟨rfl, hs⟩
      · have hnx : ∀ ty, (Instr.next (.pointer (some ⟨w.heap.size + 2, 0, none⟩)) false ty).run Try.prog wr = _ := fun _ => hrun
        clear hrun he
        have p0 := seen_push seen 0 0
        have p1 := seen_push seen 0 1
        have p2 := seen_push seen 0 2
        simp only [Nat.reduceBEq, Bool.or_false, Bool.or_true] at p0 p1 p2
        obtain ⟨t0, ht0⟩ : ∃ t0, t0 = (seen.contains 1 && wa) := ⟨_, rfl⟩
        obtain ⟨t1, ht1⟩ : ∃ t1, t1 = (seen.contains 2 && re) := ⟨_, rfl⟩
        have HP0 := Lib.hid p0; have HP1 := Lib.hid p1; have HP2 := Lib.hid p2; clear p0 p1 p2
        rw [hs, ← ht0, ← ht1]
        have HT0 := Lib.hid ht0; have HT1 := Lib.hid ht1; clear ht0 ht1 hs
        rw [Bool.false_and]
        have hfl := flag0 ch by_ nx t0 t1 h1 h2 h3
        cases lo
        all_goals
          go_wp2_with fail
          go_roundw
          case rel =>
            refine ⟨seen.push 0, HI3.out, ?_⟩
            rw [HP0.out, HP1.out, HP2.out]
            simp only [Bool.true_and, Bool.and_true, Bool.and_false]
            rw [← HT0.out, ← HT1.out]
          case measure =>
            rw [HI3.out.seen, HI.out.seen]
            exact HSH.out
      · have hnx : ∀ ty, (Instr.next (.pointer (some ⟨w.heap.size + 2, 0, none⟩)) false ty).run Try.prog wr = _ := fun _ => hrun
        clear hrun he
        have p0 := seen_push seen 1 0
        have p1 := seen_push seen 1 1
        have p2 := seen_push seen 1 2
        simp only [Nat.reduceBEq, Bool.or_false, Bool.or_true] at p0 p1 p2
        obtain ⟨t0, ht0⟩ : ∃ t0, t0 = (seen.contains 0 && lo) := ⟨_, rfl⟩
        obtain ⟨t1, ht1⟩ : ∃ t1, t1 = (seen.contains 2 && re) := ⟨_, rfl⟩
        have HP0 := Lib.hid p0; have HP1 := Lib.hid p1; have HP2 := Lib.hid p2; clear p0 p1 p2
        rw [hs, ← ht0, ← ht1]
        have HT0 := Lib.hid ht0; have HT1 := Lib.hid ht1; clear ht0 ht1 hs
        rw [Bool.false_and]
        have hfl := flag1 ch by_ nx t0 t1 h1 h2 h3
        cases wa
        all_goals
          go_wp2_with fail
          go_roundw
          case rel =>
            refine ⟨seen.push 1, HI3.out, ?_⟩
            rw [HP0.out, HP1.out, HP2.out]
            simp only [Bool.true_and, Bool.and_true, Bool.and_false]
            rw [← HT0.out, ← HT1.out]
          case measure =>
            rw [HI3.out.seen, HI.out.seen]
            exact HSH.out
      · have hnx : ∀ ty, (Instr.next (.pointer (some ⟨w.heap.size + 2, 0, none⟩)) false ty).run Try.prog wr = _ := fun _ => hrun
        clear hrun he
        have p0 := seen_push seen 2 0
        have p1 := seen_push seen 2 1
        have p2 := seen_push seen 2 2
        simp only [Nat.reduceBEq, Bool.or_false, Bool.or_true] at p0 p1 p2
        obtain ⟨t0, ht0⟩ : ∃ t0, t0 = (seen.contains 0 && lo) := ⟨_, rfl⟩
        obtain ⟨t1, ht1⟩ : ∃ t1, t1 = (seen.contains 1 && wa) := ⟨_, rfl⟩
        have HP0 := Lib.hid p0; have HP1 := Lib.hid p1; have HP2 := Lib.hid p2; clear p0 p1 p2
        rw [hs, ← ht0, ← ht1]
        have HT0 := Lib.hid ht0; have HT1 := Lib.hid ht1; clear ht0 ht1 hs
        rw [Bool.false_and]
        have hfl := flag2 ch by_ nx t0 t1 h1 h2 h3
        cases re
        all_goals
          go_wp2_with fail
          go_roundw
          case rel =>
            refine ⟨seen.push 2, HI3.out, ?_⟩
            rw [HP0.out, HP1.out, HP2.out]
            simp only [Bool.true_and, Bool.and_true, Bool.and_false]
            rw [← HT0.out, ← HT1.out]
          case measure =>
            rw [HI3.out.seen, HI.out.seen]
            exact HSH.out
end Go.Proofs.Ytbncejmohhejlaa
