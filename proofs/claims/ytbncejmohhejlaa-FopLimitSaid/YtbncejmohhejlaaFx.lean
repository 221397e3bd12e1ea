/- What is proved here: an automaton on the ground that a law has made, beside other blocks of the law. No condition. -/
import Derived.Test.YtbncejmohhejlaaFo14
set_option linter.unusedVariables false
set_option linter.unusedSimpArgs false
namespace Go.Proofs.Ytbncejmohhejlaa
open Go.RowKit
/-- The automaton s, made since w, at g; the blocks R are the law's own and not the automaton's. -/
def Fx (w W : World) (g : Nat) (R : List Nat) (s : Fs) : Prop := ∃ S1, Pt w W g [] S1 s ∧ (∀ i ∈ S1, i < W.heap.size) ∧ ∀ r ∈ R, w.heap.size ≤ r ∧ r < W.heap.size ∧ r ∉ S1
theorem Fx.size {w W : World} {g : Nat} {R : List Nat} {s : Fs} (h : Fx w W g R s) : w.heap.size ≤ W.heap.size := by
  obtain ⟨S1, h1, _⟩ := h
  exact h1.keep.size
theorem Fx.toBelow {w W : World} {g : Nat} {R : List Nat} {s : Fs} (h : Fx w W g R s) : Below w.heap.size w W := by
  obtain ⟨S1, h1, _⟩ := h
  exact h1.keep.toBelow
theorem Fx.sub {w W : World} {g : Nat} {R R' : List Nat} {s : Fs} (h : Fx w W g R s) (hR : ∀ r ∈ R', r ∈ R) : Fx w W g R' s := by
  obtain ⟨S1, h1, h2, h3⟩ := h
  exact ⟨S1, h1, h2, fun r hr => h3 r (hR r hr)⟩
theorem Fx.start {w W : World} {g : Nat} {s : Fs} (hg : g = w.heap.size) (hL : Below w.heap.size w W) (h : FopIn W g [g] s) : Fx w W g [] s := by
  refine ⟨[g], ⟨h, ⟨hL.os, hL.tape, hL.output, hL.size, fun i hi _ => hL.block i hi⟩, fun k hk => by simp at hk; omega⟩, fun i hi => ?_, fun r hr => by cases hr⟩
  obtain ⟨_, _, _, _, hF, _⟩ := h
  simp at hi
  subst hi
  exact hF.blk.lt
/-- A call of a method. -/
theorem Fx.call {w W : World} {g : Nat} {R : List Nat} {s : Fs} (h : Fx w W g R s) : ∃ S1, FopIn W g S1 s ∧ (∀ i ∈ S1, i < W.heap.size) ∧
    (∀ {W' s'}, FopTo W W' g S1 s' → Fx w W' g R s' ∧ ∀ r ∈ R, W'.heap[r]? = W.heap[r]?) ∧
    (∀ {W' s' S' l v}, Pt W W' g S1 S' s' → Given W W' S1 S' l v → Fx w W' g (v.ownBlock.toList ++ R) s' ∧ QRow W' 0 46 3 v l.length (evRow l) ∧ ∀ r ∈ R, W'.heap[r]? = W.heap[r]?) := by
  obtain ⟨S1, h1, h2, h3⟩ := h
  refine ⟨S1, h1.in_, h2, fun k => ?_, fun {W' s' S' l v} k1 k2 => ?_⟩
  · obtain ⟨S2, k1, k2, k3⟩ := k
    obtain ⟨S3, l1, l2, l3⟩ := k1.small
    refine ⟨⟨S3, ⟨l1, h1.keep.trans_new k2 h1.new, fun x hx => ?_⟩, l2, fun r hr => ⟨(h3 r hr).1, Nat.lt_of_lt_of_le (h3 r hr).2.1 k2.size, fun hm => ?_⟩⟩, fun r hr => k2.block r (h3 r hr).2.1 (h3 r hr).2.2⟩
    · rcases k3 x (l3 x hx) with e | e
      · exact h1.new x e
      · exact .inr (Nat.le_trans h1.keep.size e)
    · rcases k3 r (l3 r hm) with e | e
      · exact (h3 r hr).2.2 e
      · have := (h3 r hr).2.1; omega
  · obtain ⟨S3, l1, l2, l3⟩ := k1.in_.small
    have hn : ∀ x ∈ S3, x ∈ ([] : List Nat) ∨ w.heap.size ≤ x := fun x hx => by
      rcases k1.new x (l3 x hx) with e | e
      · exact h1.new x e
      · exact .inr (Nat.le_trans h1.keep.size e)
    refine ⟨⟨S3, ⟨l1, h1.keep.trans_new k1.keep h1.new, hn⟩, l2, fun r hr => ?_⟩, k2.1, fun r hr => k1.keep.block r (h3 r hr).2.1 (h3 r hr).2.2⟩
    rcases List.mem_append.1 hr with hr | hr
    · have hv : v.ownBlock = some r := by simpa using hr
      refine ⟨?_, (q_lt k2.1 r hv).2, fun hm => (k2.2 r hv).1 (l3 r hm)⟩
      rcases (k2.2 r hv).2 with e | e
      · rcases h1.new r e with e | e
        · cases e
        · exact e
      · exact Nat.le_trans h1.keep.size e
    · refine ⟨(h3 r hr).1, Nat.lt_of_lt_of_le (h3 r hr).2.1 k1.keep.size, fun hm => ?_⟩
      rcases k1.new r (l3 r hm) with e | e
      · exact (h3 r hr).2.2 e
      · have := (h3 r hr).2.1; omega
/-- New blocks, or blocks of R, have changed. -/
theorem Fx.far {w W W' : World} {g : Nat} {R T : List Nat} {s : Fs} (h : Fx w W g R s) (k : Keep T W W') (hT : ∀ i ∈ T, i ∈ R ∨ W.heap.size ≤ i) : Fx w W' g R s := by
  obtain ⟨S1, h1, h2, h3⟩ := h
  have hn : ∀ i ∈ S1, i < W.heap.size → i ∉ T := fun i hi hl hm => by
    rcases hT i hm with e | e
    · exact (h3 i e).2.2 hi
    · omega
  refine ⟨S1, ⟨h1.in_.keep k hn, h1.keep.trans_new k (fun i hi => ?_), h1.new⟩, fun i hi => Nat.lt_of_lt_of_le (h2 i hi) k.size, fun r hr => ⟨(h3 r hr).1, Nat.lt_of_lt_of_le (h3 r hr).2.1 k.size, (h3 r hr).2.2⟩⟩
  rcases hT i hi with e | e
  · exact .inr (h3 i e).1
  · exact .inr (Nat.le_trans h1.keep.size e)
theorem Fx.below {w W W' : World} {g : Nat} {R : List Nat} {s : Fs} (h : Fx w W g R s) (k : Below W.heap.size W W') : Fx w W' g R s :=
  h.far (T := []) ⟨k.os, k.tape, k.output, k.size, fun i hi _ => k.block i hi⟩ (fun i hi => by cases hi)
/-- A block that is new joins R. -/
theorem Fx.add {w W W' : World} {g b : Nat} {R : List Nat} {s : Fs} (h : Fx w W g R s) (k : Below W.heap.size W W') (hb : W.heap.size ≤ b) (hb2 : b < W'.heap.size) : Fx w W' g (b :: R) s := by
  have hz := h.size
  obtain ⟨S1, h1, h2, h3⟩ := h.below k
  obtain ⟨S0, g1, g2, g3⟩ := h
  have g4 : FopIn W' g S0 s := g1.in_.below k
  refine ⟨S0, ⟨g4, g1.keep.below k g1.keep.size, g1.new⟩, fun i hi => Nat.lt_of_lt_of_le (g2 i hi) k.size, fun r hr => ?_⟩
  rcases List.mem_cons.1 hr with e | e
  · subst e
    exact ⟨by omega, hb2, fun hm => by have := g2 r hm; omega⟩
  · exact ⟨(g3 r e).1, Nat.lt_of_lt_of_le (g3 r e).2.1 k.size, (g3 r e).2.2⟩
theorem Fx.alloc {w W : World} {g : Nat} {R : List Nat} {s : Fs} (h : Fx w W g R s) (o : Obj) : Fx w (W.alloc o) g (W.heap.size :: R) s :=
  h.add ((Below.refl _ _).alloc (Nat.le_refl _) o) (Nat.le_refl _) (by simp)
theorem evRow_at : ∀ (l : List Ev) (k : Nat) (h : k < l.length), (evRow l)[k * 3]? = some (.int .i64 l[k].kind) ∧ (evRow l)[k * 3 + 1]? = some (.int .i64 l[k].id) ∧ (evRow l)[k * 3 + 2]? = some (.int .i64 l[k].why)
  | [], k, h => by simp at h
  | u :: l, 0, _ => ⟨rfl, rfl, rfl⟩
  | u :: l, k + 1, h => by
    obtain ⟨h1, h2, h3⟩ := evRow_at l k (by simpa using h)
    have e1 : (k + 1) * 3 = k * 3 + 3 := by omega
    have hu : ∀ j, (evRow (u :: l))[j + 3]? = (evRow l)[j]? := fun j => by
      show (u.cells ++ evRow l)[j + 3]? = _
      rw [List.getElem?_append_right (by simp [Ev.cells])]
      simp [Ev.cells]
    refine ⟨?_, ?_, ?_⟩
    · rw [e1, hu]; exact h1
    · rw [e1, show k * 3 + 3 + 1 = (k * 3 + 1) + 3 by omega, hu]; exact h2
    · rw [e1, show k * 3 + 3 + 2 = (k * 3 + 2) + 3 by omega, hu]; exact h3
theorem Blk.same {W W' : World} {b : Nat} {vs : List Value} {t : TypeId} (h : Blk W b vs t) (e : W'.heap[b]? = W.heap[b]?) : Blk W' b vs t := by unfold Blk at *; rw [e]; exact h
theorem q_same {W W' : World} {base : Nat} {e : TypeId} {sz : Nat} {v : Value} {n : Nat} {xs : List Value} (h : QRow W base e sz v n xs) (he : ∀ k, v.ownBlock = some k → W'.heap[k]? = W.heap[k]?) : QRow W' base e sz v n xs := by
  refine ⟨h.1, h.2.1, ?_⟩
  rcases h.2.2 with h | ⟨g, off, cap, cur, hv, hb, hg, r⟩
  · exact .inl h
  · exact .inr ⟨g, off, cap, cur, hv, hb, by rw [he g (by rw [hv]; rfl)]; exact hg, r⟩
end Go.Proofs.Ytbncejmohhejlaa
