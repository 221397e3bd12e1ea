/- What is proved here: a region that draws its order, of which the last operation may write what the others read. No condition. -/
import Derived.Test.YtbncejmohhejlaaStill
import Derived.Deep.RegionHeld
import Derived.StillTail
set_option linter.unusedVariables false
set_option linter.unusedSimpArgs false
namespace Go.Proofs.Ytbncejmohhejlaa
open Go.RowKit
section
variable {P : Program} {ops : Array Oper} {Q : Exit → Act → World → Prop} {md : Region.Mode} {S : World → Prop} {k : Nat}
/-- S holds behind each operation but the last one, k. -/
def WpEnd (P : Program) (md : Region.Mode) (ops : Array Oper) (Q : Exit → Act → World → Prop) (S : World → Prop) (k : Nat) : Nat → Array Bool → Act → World → Prop
  | 0, listed, a, w => Region.ready md ops listed = [] ∧ Q .normal a w
  | f + 1, listed, a, w => (Region.ready md ops listed = [] → Q .normal a w) ∧
    ∀ i ∈ Region.ready md ops listed, wpOp P ops Q i (fun b v => (i ≠ k → S v) ∧ WpEnd P md ops Q S k f (listed.setIfInBounds i true) b v) a w
theorem WpEnd.any : ∀ (f : Nat) (listed : Array Bool) (a : Act) (w : World), WpEnd P md ops Q S k f listed a w → wpAny P md ops Q f listed a w
  | 0, _, _, _, h => h
  | f + 1, _, _, _, h => ⟨h.1, fun i hi => wpOp_mono (fun b v g => WpEnd.any f _ b v g.2) (h.2 i hi)⟩
theorem WpEnd.first {i : Nat} {oi : Oper} {v : Value} (hi : ops[i]? = some oi) (hsel : ∀ (j : Nat) (o : Oper) cs b, ops[j]? = some o → o.op ≠ .select cs b)
    (hQ : ∀ c a w, Q (.panic c) (a.put oi.dst v) w → Q (.panic c) a w) (hk : k < ops.size) (hik : i < k) (hs : Region.sinkB md ops k = true) (hc : Region.chainB md ops k = true) (f : Nat) :
    ∀ (listed : Array Bool) (a : Act) (w : World), HeadInv md ops k listed →
      (∀ j oj, ops[j]? = some oj → j ≠ i → listed.getD j true = false → (∀ e ∈ oj.after, Region.binds md e = true → e.on ≠ i) → oi.apart ops oj = true) →
      i ∈ Region.ready md ops listed → YieldsIf P ops S oi v a → S w →
      WpEnd P md ops Q S k f (listed.setIfInBounds i true) (a.put oi.dst v) w → WpEnd P md ops Q S k (f + 1) listed a w := by
  induction f with
  | zero =>
    intro listed a w _ _ hr hy hS H
    refine ⟨fun h => absurd hr (by rw [h]; simp), fun j hj => ?_⟩
    rcases Decidable.em (j = i) with e | e
    · subst e; exact hy.wpOp hi hS ⟨fun _ => hS, H⟩
    · exact absurd (ready_mono hj e) (by rw [H.1]; simp)
  | succ f ih =>
    intro listed a w inv hfree hr hy hS H
    refine ⟨fun h => absurd hr (by rw [h]; simp), fun j hj => ?_⟩
    rcases Decidable.em (j = i) with e | e
    · subst e; exact hy.wpOp hi hS ⟨fun _ => hS, H⟩
    have hri := (mem_ready.1 hr).1
    have hjk : j < k := by
      rcases Nat.lt_or_ge j k with h | h
      · exact h
      · exact absurd hj (tail_waits hs hc hk inv (k - i) i rfl hik hri j h)
    obtain ⟨hun, oj, hoj, hall⟩ := mem_ready.1 hj
    have hno : ∀ g ∈ oj.after, Region.binds md g = true → g.on ≠ i := by
      intro g hg hb hgi
      have h1 := hall g hg hb
      rw [hgi] at h1
      by_cases hz : i < listed.size
      · simp [hz] at hri h1; exact absurd h1 (by simp [hri])
      · simp [Array.getElem?_eq_none (Nat.le_of_not_lt hz)] at h1
    have hfree2 : ∀ j' oj', ops[j']? = some oj' → j' ≠ i → (listed.setIfInBounds j true).getD j' true = false → (∀ e ∈ oj'.after, Region.binds md e = true → e.on ≠ i) → oi.apart ops oj' = true := by
      intro j' oj' h1 h2 h3 h4
      refine hfree j' oj' h1 h2 ?_ h4
      rcases Decidable.em (j = j') with e2 | e2
      · exact e2 ▸ hun
      · rwa [getD_set_ne true e2] at h3
    refine wpOp_mono ?_ (wpOp_putIf hoj (hfree j oj hoj e hun hno) (fun cs b => hsel i oi cs b hi) (fun cs b => hsel j oj cs b hoj) hQ hy (H.2 j (ready_mono hj e)))
    rintro b u ⟨hyb, hSu, hW⟩
    have hu := hSu (Nat.ne_of_lt hjk)
    exact ⟨fun _ => hu, ih _ b u (inv.set hj hjk) hfree2 (ready_mono hr (Ne.symm e)) hyb hu (by rw [Array.setIfInBounds_comm _ _ e]; exact hW)⟩
theorem WpEnd.take {i : Nat} (d : Option Tmp) {oi : Oper} {v : Value} {f : Nat} {listed : Array Bool} {a : Act} {w : World} (hi : ops[i]? = some oi) (hd : oi.dst = d) (hsl : Region.noSelect ops = true) (hf : Region.free md ops listed i = true)
    (hr : (Region.ready md ops listed).contains i = true) (hQ : ∀ c a w, Q (.panic c) (a.put d v) w → Q (.panic c) a w) (hb : (decide (k < ops.size) && decide (i < k) && Region.sinkB md ops k && Region.chainB md ops k) = true)
    (inv : HeadInv md ops k listed) (hS : S w) (hw : Region.wanted oi (yielded ops a.tmps) = true) (hy : ∀ w, S w → (execOp a.eval oi).run P w = .ok (.value v) w)
    (h : HeadInv md ops k (listed.setIfInBounds i true) → WpEnd P md ops Q S k f (listed.setIfInBounds i true) (a.put d v) w) : WpEnd P md ops Q S k (f + 1) listed a w := by
  subst hd
  simp only [Bool.and_eq_true, decide_eq_true_eq] at hb
  have hm : i ∈ Region.ready md ops listed := by simpa using hr
  exact WpEnd.first hi (Region.noSelect_spec hsl) hQ hb.1.1.1 hb.1.1.2 hb.1.2 hb.2 f listed a w inv (Region.free_spec hi hf) hm (.inl ⟨hw, hy⟩) hS (h (inv.set hm hb.1.1.2))
/-- Each of the operations rs comes up next. -/
def EachEnd (P : Program) (md : Region.Mode) (ops : Array Oper) (Q : Exit → Act → World → Prop) (S : World → Prop) (k f : Nat) (listed : Array Bool) (a : Act) (w : World) (rs : List Nat) : Prop :=
  ∀ i ∈ rs, wpOp P ops Q i (fun b v => (i ≠ k → S v) ∧ WpEnd P md ops Q S k f (listed.setIfInBounds i true) b v) a w
theorem EachEnd.nil {f : Nat} {listed : Array Bool} {a : Act} {w : World} : EachEnd P md ops Q S k f listed a w [] := fun _ h => by cases h
theorem EachEnd.cons {f : Nat} {listed : Array Bool} {a : Act} {w : World} {i : Nat} (d : Option Tmp) {o : Oper} {rs : List Nat} (ho : ops[i]? = some o) (hd : o.dst = d) (hik : i < k) (hr : (Region.ready md ops listed).contains i = true) (inv : HeadInv md ops k listed)
    (h : ∀ K : Act → World → Prop, Shut (∀ u v, S v → (HeadInv md ops k (listed.setIfInBounds i true) → S v → WpEnd P md ops Q S k f (listed.setIfInBounds i true) (a.put d u) v) → K (a.put o.dst u) v) →
      Shut (∀ b v, S v → (HeadInv md ops k (listed.setIfInBounds i true) → S v → WpEnd P md ops Q S k f (listed.setIfInBounds i true) b v) → K b v) →
      if Region.wanted o (yielded ops a.tmps) = true then Oper.wp P o a w K Q else K (a.put o.dst undef) w)
    (hs : EachEnd P md ops Q S k f listed a w rs) : EachEnd P md ops Q S k f listed a w (i :: rs) := fun j hj => by
  subst hd
  rcases List.mem_cons.1 hj with rfl | hj
  · exact wpOp_step ho (fun K hK => h K (fun u v hS hW => hK _ v ⟨fun _ => hS, hW (inv.set (by simpa using hr) hik) hS⟩) (fun b v hS hW => hK b v ⟨fun _ => hS, hW (inv.set (by simpa using hr) hik) hS⟩))
  · exact hs j hj
theorem EachEnd.last {f : Nat} {listed : Array Bool} {a : Act} {w : World} {o : Oper} (ho : ops[k]? = some o)
    (h : ∀ K : Act → World → Prop, Shut (∀ b v, WpEnd P md ops Q S k f (listed.setIfInBounds k true) b v → K b v) → if Region.wanted o (yielded ops a.tmps) = true then Oper.wp P o a w K Q else K (a.put o.dst undef) w) : EachEnd P md ops Q S k f listed a w [k] := fun j hj => by
  obtain rfl : j = k := by simpa using hj
  exact wpOp_step ho (fun K hK => h K (fun b v hW => hK b v ⟨fun e => absurd rfl e, hW⟩))
theorem WpEnd.ready {rs : List Nat} {f : Nat} {listed : Array Bool} {a : Act} {w : World} (hr : Region.ready md ops listed = rs) (hne : rs ≠ []) (h : EachEnd P md ops Q S k f listed a w rs) : WpEnd P md ops Q S k (f + 1) listed a w :=
  ⟨fun h0 => absurd (hr ▸ h0) hne, hr ▸ h⟩
theorem WpEnd.done {listed : Array Bool} {a : Act} {w : World} (hr : Region.ready md ops listed = []) (h : Q .normal a w) : ∀ f, WpEnd P md ops Q S k f listed a w
  | 0 => ⟨hr, h⟩
  | _ + 1 => ⟨fun _ => h, by rw [hr]; simp⟩
theorem HeadInv.start (k : Nat) : HeadInv md ops k (Array.replicate ops.size false) := by
  refine ⟨by simp, fun j oj _ hl => ?_, fun t _ ht => by simp [ht]⟩
  rw [getD_replicate_false] at hl; cases hl
theorem region_end {id : Nat} {a : Act} {w : World} (S : World → Prop) (k : Nat) (hm : P.follows .mixedOrders = true) (hS : S w.drew)
    (h : HeadInv .any ops k (Array.replicate ops.size false) → S w.drew → WpEnd P .any ops Q S k ops.size (Array.replicate ops.size false) a w.drew) : (Code.region id ops true).wp P Q a w :=
  wp_region_any hm (WpEnd.any _ _ _ _ (h (HeadInv.start k) hS))
end
theorem post_any {F : Exit → Act → World → Prop} {a : Act} {W : World} (φ : World → Prop) (h : φ W) (g : ∀ w, φ w → F .normal a w) : F .normal a W := g W h
end Go.Proofs.Ytbncejmohhejlaa
