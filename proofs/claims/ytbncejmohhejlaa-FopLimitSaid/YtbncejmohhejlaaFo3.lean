/- What is proved here: how the automaton on the ground lies in memory, and what is kept where some of it changes. No condition. -/
import Derived.Test.YtbncejmohhejlaaFo2
set_option linter.unusedVariables false
set_option linter.unusedSimpArgs false
namespace Go.Proofs.Ytbncejmohhejlaa
open Go.RowKit
structure Fs where
  craft : Int
  chan : Int
  window : Int
  limit : Int
  timeout : Int
  service : Int
  how : Int
  set : Int
  base : Int
  tries : Int
  clock : Int
  last : Int
  due : Bool
  given : Bool
  held : Bool
  susp : Bool
  asked : Bool
  events : List Ev
  waiting : List Ut
  sent : List Ut
  byp : List ByteArray
def Fs.cells (s : Fs) (ve vw vs vb : Value) : List Value := [ve, .int .i64 s.craft, .int .i64 s.chan, .int .i64 s.window, .int .i64 s.limit, .int .i64 s.timeout, .int .i64 s.service, .int .i64 s.how, .int .i64 s.set, .int .i64 s.base, .int .i64 s.tries, .int .i64 s.clock, .int .i64 s.last, vw, vs, vb, .bool s.due, .bool s.given, .bool s.held, .bool s.susp, .bool s.asked]
def evRow (l : List Ev) : List Value := l.flatMap Ev.cells
def utRow (l : List Ut) : List Value := l.flatMap Ut.cells
def stRow (l : List ByteArray) : List Value := l.map Value.string
theorem evRow_snoc (l : List Ev) (e : Ev) : evRow (l ++ [e]) = evRow l ++ [.int .i64 e.kind, .int .i64 e.id, .int .i64 e.why] := by simp [evRow, Ev.cells]
theorem utRow_snoc (l : List Ut) (e : Ut) : utRow (l ++ [e]) = utRow l ++ [.int .i64 e.id, .string e.data, .bool e.mark] := by simp [utRow, Ut.cells]
theorem stRow_snoc (l : List ByteArray) (e : ByteArray) : stRow (l ++ [e]) = stRow l ++ [.string e] := by simp [stRow]
theorem evRow_one (l : List Ev) : ∀ u ∈ evRow l, u.oneCell' = true := by
  intro u hu
  obtain ⟨e, _, he⟩ := List.mem_flatMap.1 hu
  simp only [Ev.cells, List.mem_cons, List.not_mem_nil, or_false] at he
  rcases he with rfl | rfl | rfl <;> rfl
theorem utRow_one (l : List Ut) : ∀ u ∈ utRow l, u.oneCell' = true := by
  intro u hu
  obtain ⟨e, _, he⟩ := List.mem_flatMap.1 hu
  simp only [Ut.cells, List.mem_cons, List.not_mem_nil, or_false] at he
  rcases he with rfl | rfl | rfl <;> rfl
theorem stRow_one (l : List ByteArray) : ∀ u ∈ stRow l, u.oneCell' = true := by
  intro u hu
  obtain ⟨e, _, rfl⟩ := List.mem_map.1 hu
  rfl
def Far (a b : Value) : Prop := ∀ k, a.ownBlock = some k → b.ownBlock ≠ some k
/-- The automaton s lies at block g; its four rows are the values ve, vw, vs, vb. -/
structure FopAt (w : World) (g : Nat) (s : Fs) (ve vw vs vb : Value) : Prop where
  blk : Blk w g (s.cells ve vw vs vb) 66
  ev : QRow w 0 46 3 ve s.events.length (evRow s.events)
  wa : QRow w 0 94 3 vw s.waiting.length (utRow s.waiting)
  se : QRow w 0 94 3 vs s.sent.length (utRow s.sent)
  bp : QRow w 0 9 1 vb s.byp.length (stRow s.byp)
  ge : ve.ownBlock ≠ some g
  gw : vw.ownBlock ≠ some g
  gs : vs.ownBlock ≠ some g
  gb : vb.ownBlock ≠ some g
  ew : Far ve vw
  es : Far ve vs
  eb : Far ve vb
  ws : Far vw vs
  wb : Far vw vb
  sb : Far vs vb
def own (g : Nat) (ve vw vs vb : Value) : List Nat := g :: (ve.ownBlock.toList ++ vw.ownBlock.toList ++ vs.ownBlock.toList ++ vb.ownBlock.toList)
theorem mem_own {g k : Nat} {ve vw vs vb : Value} : k ∈ own g ve vw vs vb ↔ k = g ∨ ve.ownBlock = some k ∨ vw.ownBlock = some k ∨ vs.ownBlock = some k ∨ vb.ownBlock = some k := by
  simp [own, Option.mem_toList, or_assoc]
/-- All that belongs to the automaton lies in the blocks S. -/
def FopIn (w : World) (g : Nat) (S : List Nat) (s : Fs) : Prop := ∃ ve vw vs vb, FopAt w g s ve vw vs vb ∧ ∀ k ∈ own g ve vw vs vb, k ∈ S
/-- From w to w' only blocks of S have changed; then the automaton is s'. -/
def FopTo (w w' : World) (g : Nat) (S : List Nat) (s' : Fs) : Prop := ∃ S', FopIn w' g S' s' ∧ Keep S w w' ∧ ∀ k ∈ S', k ∈ S ∨ w.heap.size ≤ k
theorem FopTo.refl {w : World} {g : Nat} {S : List Nat} {s : Fs} (h : FopIn w g S s) : FopTo w w g S s := ⟨S, h, Keep.refl _ _, fun _ h => .inl h⟩
theorem FopTo.trans {w w1 w2 : World} {g : Nat} {S : List Nat} {s1 s2 : Fs} (h : FopTo w w1 g S s1) (k : ∀ S1, FopIn w1 g S1 s1 → FopTo w1 w2 g S1 s2) : FopTo w w2 g S s2 := by
  obtain ⟨S1, h1, h2, h3⟩ := h
  obtain ⟨S2, k1, k2, k3⟩ := k S1 h1
  refine ⟨S2, k1, h2.trans_new k2 h3, fun x hx => ?_⟩
  rcases k3 x hx with e | e
  · exact h3 x e
  · exact .inr (Nat.le_trans h2.size e)
theorem FopAt.keep {w w' : World} {g : Nat} {s : Fs} {ve vw vs vb : Value} {T : List Nat} (h : FopAt w g s ve vw vs vb) (k : Keep T w w') (hT : ∀ x ∈ own g ve vw vs vb, x ∉ T) : FopAt w' g s ve vw vs vb :=
  ⟨h.blk.keep k (hT g (mem_own.2 (.inl rfl))), q_keep h.ev k (fun x e => hT x (mem_own.2 (.inr (.inl e)))), q_keep h.wa k (fun x e => hT x (mem_own.2 (.inr (.inr (.inl e))))), q_keep h.se k (fun x e => hT x (mem_own.2 (.inr (.inr (.inr (.inl e)))))), q_keep h.bp k (fun x e => hT x (mem_own.2 (.inr (.inr (.inr (.inr e)))))),
    h.ge, h.gw, h.gs, h.gb, h.ew, h.es, h.eb, h.ws, h.wb, h.sb⟩
theorem FopAt.lt {w : World} {g : Nat} {s : Fs} {ve vw vs vb : Value} (h : FopAt w g s ve vw vs vb) : ∀ x ∈ own g ve vw vs vb, x < w.heap.size := by
  intro x hx
  rcases mem_own.1 hx with rfl | e | e | e | e
  · exact h.blk.lt
  · exact (q_lt h.ev x e).2
  · exact (q_lt h.wa x e).2
  · exact (q_lt h.se x e).2
  · exact (q_lt h.bp x e).2
theorem FopIn.keep {w w' : World} {g : Nat} {s : Fs} {S T : List Nat} (h : FopIn w g S s) (k : Keep T w w') (hT : ∀ x ∈ S, x < w.heap.size → x ∉ T) : FopIn w' g S s := by
  obtain ⟨ve, vw, vs, vb, h1, h2⟩ := h
  exact ⟨ve, vw, vs, vb, h1.keep k (fun x hx => hT x (h2 x hx) (h1.lt x hx)), h2⟩
theorem FopIn.below {w w' : World} {g : Nat} {s : Fs} {S : List Nat} (h : FopIn w g S s) (k : Below w.heap.size w w') : FopIn w' g S s :=
  h.keep (T := []) ⟨k.os, k.tape, k.output, k.size, fun i hi _ => k.block i hi⟩ (fun _ _ _ => by simp)
/-- Only plain fields have changed. -/
theorem FopAt.upd {w w' : World} {g : Nat} {s s' : Fs} {ve vw vs vb : Value} (h : FopAt w g s ve vw vs vb) (hB : Blk w' g (s'.cells ve vw vs vb) 66) (k : Keep [g] w w') (h1 : s'.events = s.events) (h2 : s'.waiting = s.waiting) (h3 : s'.sent = s.sent) (h4 : s'.byp = s.byp) : FopAt w' g s' ve vw vs vb := by
  have hn : ∀ v : Value, v.ownBlock ≠ some g → ∀ x, v.ownBlock = some x → x ∉ [g] := fun v hv x hx hm => by
    simp at hm; subst hm; exact hv hx
  exact ⟨hB, by rw [h1]; exact q_keep h.ev k (hn _ h.ge), by rw [h2]; exact q_keep h.wa k (hn _ h.gw), by rw [h3]; exact q_keep h.se k (hn _ h.gs), by rw [h4]; exact q_keep h.bp k (hn _ h.gb), h.ge, h.gw, h.gs, h.gb, h.ew, h.es, h.eb, h.ws, h.wb, h.sb⟩
theorem FopTo.upd {w w1 w2 : World} {g : Nat} {S S1 : List Nat} {s s' : Fs} {ve vw vs vb : Value} (h : FopAt w1 g s ve vw vs vb) (hS : ∀ k ∈ own g ve vw vs vb, k ∈ S1) (hK : Keep S w w1) (hN : ∀ k ∈ S1, k ∈ S ∨ w.heap.size ≤ k)
    (hB : Blk w2 g (s'.cells ve vw vs vb) 66) (k : Keep [g] w1 w2) (h1 : s'.events = s.events) (h2 : s'.waiting = s.waiting) (h3 : s'.sent = s.sent) (h4 : s'.byp = s.byp) : FopTo w w2 g S s' :=
  ⟨S1, ⟨ve, vw, vs, vb, h.upd hB k h1 h2 h3 h4, hS⟩, hK.trans_new k (fun i hi => by simp at hi; subst hi; exact hN _ (hS _ (mem_own.2 (.inl rfl)))), hN⟩
theorem mv_ne {w : World} {a v v' : Value} (hv : Far a v) (hm : Mv w v v') (ha : ∀ k, a.ownBlock = some k → k < w.heap.size) : Far a v' := by
  intro k hk h
  rcases hm k h with e | e
  · exact hv k hk e
  · have := ha k hk; omega
theorem mv_ne' {w : World} {a v v' : Value} (hv : Far v a) (hm : Mv w v v') (ha : ∀ k, a.ownBlock = some k → k < w.heap.size) : Far v' a := by
  intro k hk h
  rcases hm k hk with e | e
  · exact hv k e h
  · have := ha k h; omega
theorem mv_g {w : World} {g : Nat} {v v' : Value} (hv : v.ownBlock ≠ some g) (hm : Mv w v v') (hg : g < w.heap.size) : v'.ownBlock ≠ some g := by
  intro h
  rcases hm g h with e | e
  · exact hv e
  · omega
theorem row_not {g : Nat} {a v : Value} (h : Far a v) (hg : a.ownBlock ≠ some g) : ∀ x, a.ownBlock = some x → x ∉ g :: v.ownBlock.toList := by
  intro x hx hm
  rcases List.mem_cons.1 hm with e | e
  · subst e; exact hg hx
  · exact h x hx (by simpa using e)
theorem Far.symm {a b : Value} (h : Far a b) : Far b a := fun k hk he => h k he hk
/-- One of the rows has changed. -/
theorem FopAt.rowE {w w' : World} {g : Nat} {s s' : Fs} {ve vw vs vb ve' : Value} (h : FopAt w g s ve vw vs vb) (hB : Blk w' g (s'.cells ve' vw vs vb) 66) (k : Keep (g :: ve.ownBlock.toList) w w') (hm : Mv w ve ve') (hQ : QRow w' 0 46 3 ve' s'.events.length (evRow s'.events)) (h2 : s'.waiting = s.waiting) (h3 : s'.sent = s.sent) (h4 : s'.byp = s.byp) : FopAt w' g s' ve' vw vs vb :=
  ⟨hB, hQ, by rw [h2]; exact q_keep h.wa k (row_not h.ew.symm h.gw), by rw [h3]; exact q_keep h.se k (row_not h.es.symm h.gs), by rw [h4]; exact q_keep h.bp k (row_not h.eb.symm h.gb), mv_g h.ge hm h.blk.lt, h.gw, h.gs, h.gb,
    mv_ne' h.ew hm (fun x e => (q_lt h.wa x e).2), mv_ne' h.es hm (fun x e => (q_lt h.se x e).2), mv_ne' h.eb hm (fun x e => (q_lt h.bp x e).2), h.ws, h.wb, h.sb⟩
theorem FopAt.rowW {w w' : World} {g : Nat} {s s' : Fs} {ve vw vs vb vw' : Value} (h : FopAt w g s ve vw vs vb) (hB : Blk w' g (s'.cells ve vw' vs vb) 66) (k : Keep (g :: vw.ownBlock.toList) w w') (hm : Mv w vw vw') (hQ : QRow w' 0 94 3 vw' s'.waiting.length (utRow s'.waiting)) (h1 : s'.events = s.events) (h3 : s'.sent = s.sent) (h4 : s'.byp = s.byp) : FopAt w' g s' ve vw' vs vb :=
  ⟨hB, by rw [h1]; exact q_keep h.ev k (row_not h.ew h.ge), hQ, by rw [h3]; exact q_keep h.se k (row_not h.ws.symm h.gs), by rw [h4]; exact q_keep h.bp k (row_not h.wb.symm h.gb), h.ge, mv_g h.gw hm h.blk.lt, h.gs, h.gb,
    (mv_ne' h.ew.symm hm (fun x e => (q_lt h.ev x e).2)).symm, h.es, h.eb, mv_ne' h.ws hm (fun x e => (q_lt h.se x e).2), mv_ne' h.wb hm (fun x e => (q_lt h.bp x e).2), h.sb⟩
theorem FopAt.rowS {w w' : World} {g : Nat} {s s' : Fs} {ve vw vs vb vs' : Value} (h : FopAt w g s ve vw vs vb) (hB : Blk w' g (s'.cells ve vw vs' vb) 66) (k : Keep (g :: vs.ownBlock.toList) w w') (hm : Mv w vs vs') (hQ : QRow w' 0 94 3 vs' s'.sent.length (utRow s'.sent)) (h1 : s'.events = s.events) (h2 : s'.waiting = s.waiting) (h4 : s'.byp = s.byp) : FopAt w' g s' ve vw vs' vb :=
  ⟨hB, by rw [h1]; exact q_keep h.ev k (row_not h.es h.ge), by rw [h2]; exact q_keep h.wa k (row_not h.ws h.gw), hQ, by rw [h4]; exact q_keep h.bp k (row_not h.sb.symm h.gb), h.ge, h.gw, mv_g h.gs hm h.blk.lt, h.gb,
    h.ew, (mv_ne' h.es.symm hm (fun x e => (q_lt h.ev x e).2)).symm, h.eb, (mv_ne' h.ws.symm hm (fun x e => (q_lt h.wa x e).2)).symm, h.wb, mv_ne' h.sb hm (fun x e => (q_lt h.bp x e).2)⟩
theorem FopAt.rowB {w w' : World} {g : Nat} {s s' : Fs} {ve vw vs vb vb' : Value} (h : FopAt w g s ve vw vs vb) (hB : Blk w' g (s'.cells ve vw vs vb') 66) (k : Keep (g :: vb.ownBlock.toList) w w') (hm : Mv w vb vb') (hQ : QRow w' 0 9 1 vb' s'.byp.length (stRow s'.byp)) (h1 : s'.events = s.events) (h2 : s'.waiting = s.waiting) (h3 : s'.sent = s.sent) : FopAt w' g s' ve vw vs vb' :=
  ⟨hB, by rw [h1]; exact q_keep h.ev k (row_not h.eb h.ge), by rw [h2]; exact q_keep h.wa k (row_not h.wb h.gw), by rw [h3]; exact q_keep h.se k (row_not h.sb h.gs), hQ, h.ge, h.gw, h.gs, mv_g h.gb hm h.blk.lt,
    h.ew, h.es, (mv_ne' h.eb.symm hm (fun x e => (q_lt h.ev x e).2)).symm, h.ws, (mv_ne' h.wb.symm hm (fun x e => (q_lt h.wa x e).2)).symm, (mv_ne' h.sb.symm hm (fun x e => (q_lt h.se x e).2)).symm⟩
/-- The blocks behind such a change. -/
theorem FopTo.row {w w2 : World} {g : Nat} {S : List Nat} {s' : Fs} {ve vw vs vb ve' vw' vs' vb' : Value} (hS : ∀ k ∈ own g ve vw vs vb, k ∈ S) (h' : FopAt w2 g s' ve' vw' vs' vb') (k : Keep (own g ve vw vs vb) w w2)
    (he : Mv w ve ve') (hw : Mv w vw vw') (hs : Mv w vs vs') (hb : Mv w vb vb') : FopTo w w2 g S s' := by
  refine ⟨own g ve' vw' vs' vb', ⟨_, _, _, _, h', fun _ h => h⟩, k.mono hS, fun x hx => ?_⟩
  have hin : ∀ {y}, (y = g ∨ ve.ownBlock = some y ∨ vw.ownBlock = some y ∨ vs.ownBlock = some y ∨ vb.ownBlock = some y) → y ∈ S := fun h => hS _ (mem_own.2 h)
  rcases mem_own.1 hx with e | e | e | e | e
  · exact .inl (hin (.inl e))
  · rcases he x e with e | e
    · exact .inl (hin (.inr (.inl e)))
    · exact .inr e
  · rcases hw x e with e | e
    · exact .inl (hin (.inr (.inr (.inl e))))
    · exact .inr e
  · rcases hs x e with e | e
    · exact .inl (hin (.inr (.inr (.inr (.inl e)))))
    · exact .inr e
  · rcases hb x e with e | e
    · exact .inl (hin (.inr (.inr (.inr (.inr e)))))
    · exact .inr e
theorem Mv.rfl {w : World} {v : Value} : Mv w v v := fun _ h => .inl h
theorem own_g {g : Nat} {ve vw vs vb : Value} : g ∈ own g ve vw vs vb := mem_own.2 (.inl rfl)
theorem own_e {g : Nat} {ve vw vs vb : Value} : ∀ i ∈ g :: ve.ownBlock.toList, i ∈ own g ve vw vs vb := by
  intro i hi; rcases List.mem_cons.1 hi with e | e
  · exact mem_own.2 (.inl e)
  · exact mem_own.2 (.inr (.inl (by simpa using e)))
theorem own_w {g : Nat} {ve vw vs vb : Value} : ∀ i ∈ g :: vw.ownBlock.toList, i ∈ own g ve vw vs vb := by
  intro i hi; rcases List.mem_cons.1 hi with e | e
  · exact mem_own.2 (.inl e)
  · exact mem_own.2 (.inr (.inr (.inl (by simpa using e))))
theorem own_s {g : Nat} {ve vw vs vb : Value} : ∀ i ∈ g :: vs.ownBlock.toList, i ∈ own g ve vw vs vb := by
  intro i hi; rcases List.mem_cons.1 hi with e | e
  · exact mem_own.2 (.inl e)
  · exact mem_own.2 (.inr (.inr (.inr (.inl (by simpa using e)))))
theorem own_b {g : Nat} {ve vw vs vb : Value} : ∀ i ∈ g :: vb.ownBlock.toList, i ∈ own g ve vw vs vb := by
  intro i hi; rcases List.mem_cons.1 hi with e | e
  · exact mem_own.2 (.inl e)
  · exact mem_own.2 (.inr (.inr (.inr (.inr (by simpa using e)))))
end Go.Proofs.Ytbncejmohhejlaa
