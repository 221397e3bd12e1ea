/- What is proved here: Next, Tick and Send of the automaton on the ground as functions of its state. -/
import Derived.Test.YtbncejmohhejlaaFx
import Derived.Test.YtbncejmohhejlaaF5
set_option linter.unusedVariables false
set_option linter.unusedSimpArgs false
namespace Go.Proofs.Ytbncejmohhejlaa
open Go.RowKit
section
/-- The next frame, and the state behind it. -/
def nextF (s : Fs) : Fs × Option Tc :=
  match s.byp with
  | d :: l => ({ s with byp := l }, some ⟨s.craft, s.chan, true, false, 0, d⟩)
  | [] =>
    if s.service ≠ 2 ∨ s.held = true then (s, none) else
    match s.sent.findIdx? (·.mark) with
    | some j => ({ s with sent := s.sent.set j ⟨(s.sent.getD j ⟨0, ⟨#[]⟩, false⟩).id, (s.sent.getD j ⟨0, ⟨#[]⟩, false⟩).data, false⟩ }, some ⟨s.craft, s.chan, false, false, (s.base + j) % 256, (s.sent.getD j ⟨0, ⟨#[]⟩, false⟩).data⟩)
    | none =>
      match s.waiting with
      | [] => (s, none)
      | u :: l => if s.window ≤ (s.sent.length : Int) then (s, none) else (newSent s u l, some ⟨s.craft, s.chan, false, false, (s.base + s.sent.length) % 256, u.data⟩)
/-- What the contracts ask of the state. -/
structure Fs.fine (s : Fs) : Prop where
  win : s.window ≠ 0
  due : s.due = false
  susp : s.susp = false
  base0 : 0 ≤ s.base
  base1 : s.base ≤ 255
  sent : s.sent.length ≤ 127
  wait : s.waiting.length ≤ 256
  byp : s.byp.length ≤ 256
  ev : s.events = []
def tcV (x : Option Tc) : Value := match x with | some y => .agg #[.int .i64 y.craft, .int .i64 y.chan, .bool y.byp, .bool y.ctl, .int .i64 y.seq, .string y.data] | none => .agg #[.int .i64 0, .int .i64 0, .bool false, .bool false, .int .i64 0, .string ⟨#[]⟩]
theorem Next_all (s : Fs) (g : Nat) (S : List Nat) (w : World) (hf : s.fine) (hl : ∀ i ∈ S, i < w.heap.size) (h : FopIn w g S s) :
    Calls Try.prog 13 #[.pointer (some ⟨g, 0, none⟩)] w fun e w' => e = .returned (.tuple #[tcV (nextF s).2, .bool (nextF s).2.isSome]) ∧ FopTo w w' g S (nextF s).1 := by
  have hs := hf.sent; have hw := hf.wait
  unfold nextF
  split
  · rename_i d l hb
    have := hf.byp
    rw [hb] at this
    exact Next_byp s g S w d l hl hf.due hf.susp hb (by simp at this; omega) hf.win h
  · rename_i hb
    split
    · rename_i hd
      exact Next_down s g S w hl hf.due hf.susp hb hd hf.win h
    · rename_i hd
      have hsv : s.service = 2 := by
        by_cases e : s.service = 2
        · exact e
        · exact absurd (.inl e) hd
      have hhe : s.held = false := by
        cases e : s.held
        · rfl
        · exact absurd (.inr e) hd
      split
      · rename_i j hj
        obtain ⟨hlt, hm, hm0⟩ := List.findIdx?_eq_some_iff_getElem.1 hj
        have hg : s.sent.getD j ⟨0, ⟨#[]⟩, false⟩ = s.sent[j] := by rw [List.getD_eq_getElem?_getD, List.getElem?_eq_getElem hlt]; rfl
        rw [hg]
        exact Next_marked s g S w j hlt hm (fun k hk => by simpa using hm0 k hk) hf.base0 hf.base1 hs hl hf.due hf.susp hb hsv hhe hf.win h
      · rename_i hj
        have hm0 : ∀ u ∈ s.sent, u.mark = false := by
          intro u hu
          have := List.findIdx?_eq_none_iff.1 hj u hu
          simpa using this
        have hmk : ∀ k, (hk : k < s.sent.length) → s.sent[k].mark = false := fun k hk => hm0 _ (List.getElem_mem hk)
        split
        · rename_i hwt
          exact Next_full s g S w hmk hs hl hf.due hf.susp hb hsv hhe (.inr hwt) hf.win h
        · rename_i u l hwt
          split
          · rename_i hfull
            exact Next_full s g S w hmk hs hl hf.due hf.susp hb hsv hhe (.inl hfull) hf.win h
          · rename_i hfull
            exact Next_new s g S w u l hwt (by rw [hwt] at hw; simp at hw; omega) hf.base0 hf.base1 hmk hs hl hf.due hf.susp hb hsv hhe (by omega) hf.win h
def tickF (s : Fs) (by_ : Int) : Fs × List Ev :=
  if s.service = 0 ∨ s.service = 2 ∧ s.sent = [] then (s, [])
  else if 0 < s.clock - by_ then ({ s with clock := s.clock - by_ }, [])
  else if s.limit ≤ s.tries then ({ alertF { s with clock := s.clock - by_ } 1 with events := [] }, [⟨3, 0, 1⟩])
  else (againF s, [])
theorem Pt.of {w W : World} {g : Nat} {S : List Nat} {s : Fs} (h : FopTo w W g S s) : ∃ S', Pt w W g S S' s ∧ Given w W S S' [] (.slice none 0 0) := by
  obtain ⟨S', h1, h2, h3⟩ := h
  exact ⟨S', ⟨h1, h2, h3⟩, q_nil _ _ _ _, fun k hk => by cases hk⟩
theorem Tick_all (s : Fs) (by_ : Int) (g : Nat) (S : List Nat) (w : World) (hf : s.fine) (hs : s.service = 0 ∨ s.service = 1 ∨ s.service = 2) (h0 : 0 ≤ by_) (h1 : by_ ≤ 1073741824) (hc0 : -4000000000000000000 ≤ s.clock) (hc1 : s.clock ≤ 4000000000000000000) (ht0 : 0 ≤ s.tries) (ht1 : s.tries ≤ 1000) (h : FopIn w g S s) :
    Calls Try.prog 18 #[.pointer (some ⟨g, 0, none⟩), .int .i64 by_] w fun e w' => ∃ v S', e = .returned (.tuple #[v, .int .i64 0]) ∧ Pt w w' g S S' (tickF s by_).1 ∧ Given w w' S S' (tickF s by_).2 v := by
  have hlen := hf.sent
  unfold tickF
  split
  · rename_i hi
    refine (Tick_idle s g S w by_ h0 h1 hf.susp hi hf.win h).mono ?_
    rintro e w' ⟨rfl, rfl⟩
    obtain ⟨S', a, b⟩ := Pt.of (FopTo.refl h)
    exact ⟨_, S', rfl, a, b⟩
  · rename_i hi
    have hb : s.service = 1 ∨ s.service = 2 ∧ 0 < s.sent.length := by
      rcases hs with e | e | e
      · exact absurd (.inl e) hi
      · exact .inl e
      · refine .inr ⟨e, List.length_pos_iff.2 fun e2 => hi (.inr ⟨e, e2⟩)⟩
    split
    · rename_i hc
      refine (Tick_wait s g S w by_ h0 h1 hf.susp hb hc0 hc1 hc hf.win h).mono ?_
      rintro e w' ⟨rfl, hT⟩
      obtain ⟨S', a, b⟩ := Pt.of hT
      exact ⟨_, S', rfl, a, b⟩
    · rename_i hc
      split
      · rename_i hl
        have := Tick_alert s g S w by_ h0 h1 hf.susp hb hc0 hc1 (by omega) hl (by rw [hf.ev]; simp) hf.win h
        rw [hf.ev] at this
        exact this
      · rename_i hl
        refine (Tick_again s g S w by_ h0 h1 hf.susp hb hc0 hc1 (by omega) (by omega) ht0 ht1 (by omega) hf.win h).mono ?_
        rintro e w' ⟨rfl, hT⟩
        obtain ⟨S', a, b⟩ := Pt.of hT
        exact ⟨_, S', rfl, a, b⟩
def sendR (s : Fs) (d : ByteArray) : Fs × Int × Int := if s.waiting.length < 256 then (sendF s d, s.last + 1, 0) else (s, 0, 5)
theorem Send_all (s : Fs) (d : ByteArray) (g : Nat) (S : List Nat) (w : World) (hf : s.fine) (hd : unfitF d = false) (hs : s.service = 2) (ha : 0 ≤ s.last) (hb : s.last ≤ 1000000000) (h : FopIn w g S s) :
    Calls Try.prog 16 #[.pointer (some ⟨g, 0, none⟩), .string d] w fun e w' => e = .returned (.tuple #[.int .i64 (sendR s d).2.1, .int .i64 (sendR s d).2.2]) ∧ FopTo w w' g S (sendR s d).1 := by
  unfold sendR
  split
  · rename_i hl
    exact Send_ok s g S w d hd hs hl ha hb hf.win h
  · rename_i hl
    refine (Send_full s g S w d hd hs (by omega) hf.win h).mono ?_
    rintro e w' ⟨rfl, rfl⟩
    exact ⟨rfl, FopTo.refl h⟩
def bypR (s : Fs) (d : ByteArray) : Fs × Int := if s.byp.length < 256 then ({ s with byp := s.byp ++ [d] }, 0) else (s, 5)
theorem Bypass_all (s : Fs) (d : ByteArray) (g : Nat) (S : List Nat) (w : World) (hf : s.fine) (hd : unfitF d = false) (h : FopIn w g S s) :
    Calls Try.prog 21 #[.pointer (some ⟨g, 0, none⟩), .string d] w fun e w' => e = .returned (.int .i64 (bypR s d).2) ∧ FopTo w w' g S (bypR s d).1 := by
  unfold bypR
  split
  · rename_i hl
    exact Bypass_ok s g S w d hd hl hf.win h
  · rename_i hl
    refine (Bypass_full s g S w d hd (by omega) hf.win h).mono ?_
    rintro e w' ⟨rfl, rfl⟩
    exact ⟨rfl, FopTo.refl h⟩
end
section
def bypD : ByteArray := ⟨#[98, 121, 112, 97, 115, 115]⟩
structure Pr where
  s : Fs
  f : Fm
  up : List Tc
  down : List Nat
  units : List ByteArray
  acc : List ByteArray
  acked : Nat
  alert : Int
structure Dw where
  n : Nat
  bypd : Nat
  wait : Bool
  retx : Bool
def frOf (n0 : Nat) (units : List ByteArray) : Option Nat → Tc
  | none => ⟨1, 2, true, false, 0, bypD⟩
  | some i => ⟨1, 2, false, false, ((n0 + i : Nat) : Int) % 256, units.getD i ⟨#[]⟩⟩
def dwN (n0 : Nat) (x : Dw) : Nat := wordN 2 x.bypd ((n0 + x.n) % 256) false x.wait x.retx
def numU (units : List ByteArray) : List Ut := units.mapIdx fun i d => ⟨(i : Int) + 1, d, false⟩
theorem numU_len (l : List ByteArray) : (numU l).length = l.length := by simp [numU]
theorem numU_snoc (l : List ByteArray) (d : ByteArray) : numU (l ++ [d]) = numU l ++ [⟨(l.length : Int) + 1, d, false⟩] := by
  simp [numU, List.mapIdx_append]
theorem numU_at (l : List ByteArray) (i : Nat) (h : i < l.length) : (numU l)[i]? = some ⟨(i : Int) + 1, l.getD i ⟨#[]⟩, false⟩ := by
  simp [numU, List.getElem?_mapIdx, List.getD_eq_getElem?_getD, List.getElem?_eq_getElem h]
theorem frOf_snoc (n0 : Nat) (l : List ByteArray) (d : ByteArray) (x : Option Nat) (h : ∀ i, x = some i → i < l.length) : frOf n0 (l ++ [d]) x = frOf n0 l x := by
  cases x with
  | none => rfl
  | some i =>
    have := h i rfl
    simp [frOf, List.getD_eq_getElem?_getD, List.getElem?_append_left this]
/-- What always holds while there was no alert. -/
structure Inv (k n0 L : Nat) (tm : Int) (p : Pr) (ups : List (Option Nat)) (dws : List Dw) (b : Nat) : Prop where
  hk : 1 ≤ k ∧ k ≤ 127
  hL : 1 ≤ L ∧ L ≤ 100
  htm : 1 ≤ tm ∧ tm ≤ 1073741824
  serv : p.s.service = 2
  susp : p.s.susp = false
  due : p.s.due = false
  win : p.s.window = k
  craft : p.s.craft = 1
  chan : p.s.chan = 2
  limit : p.s.limit = L
  timeout : p.s.timeout = tm
  ev : p.s.events = []
  last : p.s.last = p.units.length
  clock : 1 ≤ p.s.clock ∧ p.s.clock ≤ tm
  tries : 1 ≤ p.s.tries ∧ p.s.tries ≤ L
  base : p.s.base = ((n0 + b : Nat) : Int) % 256
  rest : (p.s.sent ++ p.s.waiting).map Ut.off = (numU p.units).drop b
  bu : b ≤ p.units.length
  sl : p.s.sent.length ≤ k
  wl : p.s.waiting.length ≤ 256
  wm : ∀ u ∈ p.s.waiting, u.mark = false
  byp : ∀ d ∈ p.s.byp, d = bypD
  bl : p.s.byp.length ≤ 256
  fcraft : p.f.craft = 1
  fhalf : p.f.half = k
  fchan : p.f.st.chan = 2
  flock : p.f.st.lockout = false
  fbyp : 0 ≤ p.f.st.bypd ∧ p.f.st.bypd ≤ 3
  fnext : p.f.st.next = ((n0 + p.acc.length : Nat) : Int) % 256
  hacc : p.acc = p.units.take p.acc.length
  bN : b ≤ p.acc.length
  Nb : p.acc.length ≤ b + p.s.sent.length
  acked : p.acked = b
  hup : p.up = ups.map (frOf n0 p.units)
  u1 : ∀ i, some i ∈ ups → i < b + p.s.sent.length
  u2 : ∀ i, some i ∈ ups → p.acc.length ≤ i + k
  u3 : ups.Pairwise (fun x y => ∀ i j, x = some i → y = some j → i < j + k)
  hdown : p.down = dws.map (dwN n0)
  d1 : ∀ x ∈ dws, b ≤ x.n ∧ x.n ≤ p.acc.length ∧ x.bypd ≤ 3
  d2 : dws.Pairwise (fun x y => x.n ≤ y.n)
  uz : ∀ d ∈ p.units, 1 ≤ d.size ∧ d.size ≤ 200
  al : p.alert = 0
section
variable {k n0 L : Nat} {tm : Int} {p : Pr} {ups : List (Option Nat)} {dws : List Dw} {b : Nat}
theorem Inv.fine (h : Inv k n0 L tm p ups dws b) : p.s.fine := by
  have h1 := h.hk; have h2 := h.sl; have h3 := h.base
  exact ⟨by rw [h.win]; omega, h.due, h.susp, by omega, by omega, by omega, h.wl, h.bl, h.ev⟩
theorem Inv.fok (h : Inv k n0 L tm p ups dws b) : p.f.ok := by
  have h1 := h.hk; have h2 := h.fhalf; have h3 := h.fnext; have h4 := h.fbyp
  exact ⟨by omega, by omega, h4.1, h4.2, by omega, by omega⟩
theorem Inv.len (h : Inv k n0 L tm p ups dws b) : b + p.s.sent.length + p.s.waiting.length = p.units.length := by
  have := congrArg List.length h.rest
  simp [numU_len] at this
  have := h.bu
  omega
/-- The unit i of those that were sent. -/
theorem Inv.sentAt (h : Inv k n0 L tm p ups dws b) (i : Nat) (hi : i < p.s.sent.length) : p.s.sent[i].id = ((b + i : Nat) : Int) + 1 ∧ p.s.sent[i].data = p.units.getD (b + i) ⟨#[]⟩ := by
  have hl := h.len
  have h1 : ((p.s.sent ++ p.s.waiting).map Ut.off)[i]? = some p.s.sent[i].off := by
    rw [List.getElem?_map, List.getElem?_append_left hi, List.getElem?_eq_getElem hi]; rfl
  rw [h.rest, List.getElem?_drop, numU_at _ _ (by omega)] at h1
  have h2 := Option.some.inj h1
  have e1 := congrArg Ut.id h2
  have e2 := congrArg Ut.data h2
  exact ⟨e1.symm, e2.symm⟩
theorem Inv.waitAt (h : Inv k n0 L tm p ups dws b) (u : Ut) (l : List Ut) (hw : p.s.waiting = u :: l) : u.data = p.units.getD (b + p.s.sent.length) ⟨#[]⟩ := by
  have hl := h.len
  have hp : (p.s.waiting).length = l.length + 1 := by rw [hw]; rfl
  have h1 : ((p.s.sent ++ p.s.waiting).map Ut.off)[p.s.sent.length]? = some u.off := by
    rw [List.getElem?_map, List.getElem?_append_right (Nat.le_refl _), hw]; simp
  rw [h.rest, List.getElem?_drop, numU_at _ _ (by omega)] at h1
  exact (congrArg Ut.data (Option.some.inj h1)).symm
theorem Inv.send (h : Inv k n0 L tm p ups dws b) (d : ByteArray) (hd : 1 ≤ d.size ∧ d.size ≤ 200) (hw : p.s.waiting.length < 256) :
    Inv k n0 L tm { p with s := sendF p.s d, units := p.units ++ [d] } ups dws b := by
  have hl := h.len
  refine { h with last := ?_, rest := ?_, bu := ?_, wl := ?_, wm := ?_, hacc := ?_, hup := ?_, uz := ?_, .. }
  · show p.s.last + 1 = _
    rw [h.last]; simp
  · show ((p.s.sent ++ (p.s.waiting ++ [(⟨p.s.last + 1, d, false⟩ : Ut)])).map Ut.off) = _
    rw [← List.append_assoc, List.map_append, h.rest, numU_snoc, List.drop_append_of_le_length (by rw [numU_len]; exact h.bu), h.last]
    rfl
  · simp; have := h.bu; omega
  · show (p.s.waiting ++ [_]).length ≤ 256
    simp; omega
  · intro u hu
    rcases List.mem_append.1 hu with hu | hu
    · exact h.wm u hu
    · simp at hu; subst hu; rfl
  · have h1 := h.hacc; have h2 := h.Nb
    show p.acc = (p.units ++ [d]).take p.acc.length
    rw [List.take_append_of_le_length (by omega)]; exact h1
  · show p.up = ups.map (frOf n0 (p.units ++ [d]))
    rw [h.hup]
    refine List.map_congr_left fun x hx => (frOf_snoc n0 p.units d x ?_).symm
    rintro i rfl
    have := h.u1 i hx
    omega
  · intro e he
    rcases List.mem_append.1 he with he | he
    · exact h.uz e he
    · simp at he; subst he; exact hd
theorem Inv.bypass (h : Inv k n0 L tm p ups dws b) (hw : p.s.byp.length < 256) : Inv k n0 L tm { p with s := { p.s with byp := p.s.byp ++ [bypD] } } ups dws b := by
  refine { h with byp := ?_, bl := ?_, .. }
  · intro d hd
    rcases List.mem_append.1 hd with hd | hd
    · exact h.byp d hd
    · simpa using hd
  · show (p.s.byp ++ [bypD]).length ≤ 256
    simp; omega
end
end
section
section
variable {k n0 L : Nat} {tm : Int} {p : Pr} {ups : List (Option Nat)} {dws : List Dw} {b : Nat}
theorem Inv.push (h : Inv k n0 L tm p ups dws b) (o : Option Nat) (ho : ∀ i, o = some i → b ≤ i ∧ i < b + p.s.sent.length) : Inv k n0 L tm { p with up := p.up ++ [frOf n0 p.units o] } (ups ++ [o]) dws b := by
  have hsl := h.sl; have hNb := h.Nb
  refine { h with hup := ?_, u1 := ?_, u2 := ?_, u3 := ?_, .. }
  · show p.up ++ _ = _
    rw [List.map_append, h.hup]; rfl
  · intro i hi
    rcases List.mem_append.1 hi with hi | hi
    · exact h.u1 i hi
    · simp at hi; exact (ho i hi.symm).2
  · intro i hi
    rcases List.mem_append.1 hi with hi | hi
    · exact h.u2 i hi
    · simp at hi
      have := ho i hi.symm
      show p.acc.length ≤ i + k
      omega
  · refine List.pairwise_append.2 ⟨h.u3, by simp, ?_⟩
    intro x hx y hy i j hi hj
    simp at hy
    subst hi hj
    have h1 := h.u1 i hx
    have h2 := ho j hy.symm
    omega
theorem map_off_set (l : List Ut) (j : Nat) (hj : j < l.length) (m : Bool) : (l.set j ⟨l[j].id, l[j].data, m⟩).map Ut.off = l.map Ut.off := by
  rw [List.map_set]
  refine List.ext_getElem (by simp) fun i h1 h2 => ?_
  rw [List.getElem_set]
  split
  · rename_i e; subst e; simp [Ut.off]
  · rfl
theorem Inv.next (h : Inv k n0 L tm p ups dws b) : Inv k n0 L tm { p with s := (nextF p.s).1 } ups dws b ∧
    ∀ x, (nextF p.s).2 = some x → ∃ o, x = frOf n0 p.units o ∧ ∀ i, o = some i → b ≤ i ∧ i < b + (nextF p.s).1.sent.length := by
  have hself : Inv k n0 L tm { p with s := p.s } ups dws b := h
  have hlen := h.len
  have hb := h.base
  unfold nextF
  split
  · rename_i d l hd
    have hdd := h.byp d (by rw [hd]; simp)
    refine ⟨{ h with byp := fun e he => h.byp e (by rw [hd]; simp [he]), bl := ?_, .. }, fun x hx => ⟨none, ?_, fun i hi => by cases hi⟩⟩
    · have := h.bl; rw [hd] at this; simp at this; show l.length ≤ 256; omega
    · injection hx with hx
      rw [← hx, h.craft, h.chan, hdd]; rfl
  · split
    · exact ⟨hself, fun x hx => by cases hx⟩
    · split
      · rename_i j hj
        obtain ⟨hlt, hm, hm0⟩ := List.findIdx?_eq_some_iff_getElem.1 hj
        have hg : p.s.sent.getD j ⟨0, ⟨#[]⟩, false⟩ = p.s.sent[j] := by rw [List.getD_eq_getElem?_getD, List.getElem?_eq_getElem hlt]; rfl
        rw [hg]
        refine ⟨{ h with rest := ?_, sl := ?_, Nb := ?_, u1 := ?_, .. }, fun x hx => ⟨some (b + j), ?_, ?_⟩⟩
        · show ((p.s.sent.set j _ ++ p.s.waiting).map Ut.off) = _
          rw [List.map_append, map_off_set p.s.sent j hlt false, ← List.map_append]; exact h.rest
        · show (p.s.sent.set j _).length ≤ k
          rw [List.length_set]; exact h.sl
        · show p.acc.length ≤ b + (p.s.sent.set j _).length
          rw [List.length_set]; exact h.Nb
        · intro i hi
          show i < b + (p.s.sent.set j _).length
          rw [List.length_set]; exact h.u1 i hi
        · injection hx with hx
          rw [← hx, h.craft, h.chan, (h.sentAt j hlt).2, h.base]
          simp only [frOf]
          congr 1
          omega
        · intro i hi
          injection hi with hi
          show b ≤ i ∧ i < b + (p.s.sent.set j _).length
          rw [List.length_set]; omega
      · split
        · exact ⟨hself, fun x hx => by cases hx⟩
        · rename_i u l hw
          split
          · exact ⟨hself, fun x hx => by cases hx⟩
          · rename_i hf
            have hwin := h.win
            have hn : (newSent p.s u l).sent = p.s.sent ++ [u] ∧ (newSent p.s u l).waiting = l := ⟨rfl, rfl⟩
            have hll : p.s.waiting.length = l.length + 1 := by rw [hw]; rfl
            have hwl := h.wl
            have hfield : ∀ {α : Type} (F : Fs → α), (∀ (t : Fs) a c, F { t with tries := a, clock := c } = F t) → (∀ (t : Fs) a c, F { t with waiting := a, sent := c } = F t) → F (newSent p.s u l) = F p.s := by
              intro α F h1 h2
              unfold newSent
              rw [h2]
              split
              · exact h1 _ _ _
              · rfl
            refine ⟨{ h with serv := ?_, susp := ?_, due := ?_, win := ?_, craft := ?_, chan := ?_, limit := ?_, timeout := ?_, ev := ?_, last := ?_, clock := ?_, tries := ?_, base := ?_, rest := ?_, sl := ?_, wl := ?_, wm := ?_, byp := ?_, bl := ?_, Nb := ?_, u1 := ?_, .. }, fun x hx => ⟨some (b + p.s.sent.length), ?_, ?_⟩⟩
            · exact (hfield Fs.service (fun _ _ _ => rfl) (fun _ _ _ => rfl)).trans h.serv
            · exact (hfield Fs.susp (fun _ _ _ => rfl) (fun _ _ _ => rfl)).trans h.susp
            · exact (hfield Fs.due (fun _ _ _ => rfl) (fun _ _ _ => rfl)).trans h.due
            · exact (hfield Fs.window (fun _ _ _ => rfl) (fun _ _ _ => rfl)).trans h.win
            · exact (hfield Fs.craft (fun _ _ _ => rfl) (fun _ _ _ => rfl)).trans h.craft
            · exact (hfield Fs.chan (fun _ _ _ => rfl) (fun _ _ _ => rfl)).trans h.chan
            · exact (hfield Fs.limit (fun _ _ _ => rfl) (fun _ _ _ => rfl)).trans h.limit
            · exact (hfield Fs.timeout (fun _ _ _ => rfl) (fun _ _ _ => rfl)).trans h.timeout
            · exact (hfield Fs.events (fun _ _ _ => rfl) (fun _ _ _ => rfl)).trans h.ev
            · exact (hfield Fs.last (fun _ _ _ => rfl) (fun _ _ _ => rfl)).trans h.last
            · show 1 ≤ (newSent p.s u l).clock ∧ (newSent p.s u l).clock ≤ tm
              have h1 := h.clock; have h2 := h.timeout; have h3 := h.htm
              unfold newSent
              split
              · show 1 ≤ p.s.timeout ∧ p.s.timeout ≤ tm
                omega
              · exact h1
            · show 1 ≤ (newSent p.s u l).tries ∧ (newSent p.s u l).tries ≤ (L : Int)
              have h1 := h.tries; have h2 := h.hL
              unfold newSent
              split
              · show (1 : Int) ≤ 1 ∧ (1 : Int) ≤ (L : Int)
                omega
              · exact h1
            · exact (hfield Fs.base (fun _ _ _ => rfl) (fun _ _ _ => rfl)).trans h.base
            · show ((newSent p.s u l).sent ++ (newSent p.s u l).waiting).map Ut.off = _
              rw [hn.1, hn.2, List.append_assoc, List.singleton_append, ← hw]; exact h.rest
            · show (newSent p.s u l).sent.length ≤ k
              rw [hn.1, List.length_append, List.length_singleton]; omega
            · show (newSent p.s u l).waiting.length ≤ 256
              rw [hn.2]; omega
            · intro v hv
              rw [hn.2] at hv
              exact h.wm v (by rw [hw]; exact List.mem_cons_of_mem _ hv)
            · intro d hd
              exact h.byp d (by rw [← hfield Fs.byp (fun _ _ _ => rfl) (fun _ _ _ => rfl)]; exact hd)
            · show (newSent p.s u l).byp.length ≤ 256
              rw [hfield Fs.byp (fun _ _ _ => rfl) (fun _ _ _ => rfl)]; exact h.bl
            · show p.acc.length ≤ b + (newSent p.s u l).sent.length
              have := h.Nb
              rw [hn.1, List.length_append]; omega
            · intro i hi
              show i < b + (newSent p.s u l).sent.length
              have := h.u1 i hi
              rw [hn.1, List.length_append]; omega
            · injection hx with hx
              rw [← hx, h.craft, h.chan, h.waitAt u l hw, h.base]
              simp only [frOf]
              congr 1
              omega
            · intro i hi
              injection hi with hi
              rw [hn.1, List.length_append, List.length_singleton]; omega
end
end
section
section
variable {k n0 L : Nat} {tm : Int} {p : Pr} {ups : List (Option Nat)} {dws : List Dw} {b : Nat}
theorem frOf_good (n0 : Nat) (units : List ByteArray) (i : Nat) (hi : i < units.length) (hz : ∀ d ∈ units, 1 ≤ d.size ∧ d.size ≤ 200) : (frOf n0 units (some i)).good = true := by
  have h := hz (units.getD i ⟨#[]⟩) (by rw [List.getD_eq_getElem?_getD, List.getElem?_eq_getElem hi]; exact List.getElem_mem hi)
  rw [Tc.good_iff]
  refine ⟨⟨?_, ?_, ?_, ?_, ?_, ?_, h.1, h.2⟩, rfl⟩
  all_goals (simp only [frOf]; omega)
/-- What the automaton on board does with the data frame of index i. -/
theorem take_data (f : Fm) (n0 k N i : Nat) (units : List ByteArray) (room : Bool) (hk : 1 ≤ k ∧ k ≤ 127) (h1 : f.craft = 1) (h2 : f.half = k) (h3 : f.st.chan = 2) (h4 : f.st.lockout = false) (h5 : f.st.next = ((n0 + N : Nat) : Int) % 256)
    (hg : (frOf n0 units (some i)).good = true) (hi1 : N ≤ i + k) (hi2 : i < N + k) :
    takeF f (frOf n0 units (some i)) room =
      (if i = N then (if room then (⟨f.craft, f.half, ⟨f.st.chan, f.st.lockout, f.st.wait, false, f.st.bypd, (f.st.next + 1) % 256⟩⟩, true, 0) else (⟨f.craft, f.half, ⟨f.st.chan, f.st.lockout, true, true, f.st.bypd, f.st.next⟩⟩, false, 0))
      else if N < i then (⟨f.craft, f.half, ⟨f.st.chan, f.st.lockout, f.st.wait, true, f.st.bypd, f.st.next⟩⟩, false, 0) else (f, false, 0)) := by
  unfold takeF
  have e1 : ((frOf n0 units (some i)).craft == f.craft) = true := by rw [h1]; rfl
  have e2 : ((frOf n0 units (some i)).chan == f.st.chan) = true := by rw [h3]; rfl
  have e3 : (frOf n0 units (some i)).byp = false := rfl
  have e4 : (frOf n0 units (some i)).seq = ((n0 + i : Nat) : Int) % 256 := rfl
  rw [hg, e1, e2, e3, e4, h5]
  simp only [Bool.and_self, if_true, Bool.false_eq_true, if_false]
  have w0 : whenB f ((((n0 + i : Nat) : Int) % 256 - ((n0 + N : Nat) : Int) % 256) % 256) room 0 = false := h4
  by_cases c1 : i = N
  · subst c1
    have ea : (((n0 + i : Nat) : Int) % 256 - ((n0 + i : Nat) : Int) % 256) % 256 = 0 := by omega
    rw [ea] at w0 ⊢
    rw [if_pos rfl]
    cases room with
    | true =>
      have w1 : whenB f 0 true 1 = true := rfl
      have fa : firstAct f 0 true = 1 := by unfold firstAct; rw [w0, w1]; rfl
      rw [fa]
      simp only [doF, if_true]
      have hne : ((f.st.next + 1) % 256 != ((n0 + i : Nat) : Int) % 256) = true := by
        rw [bne_iff_ne, h5]; omega
      rw [hne, h5]
    | false =>
      have w1 : whenB f 0 false 1 = false := rfl
      have w2 : whenB f 0 false 2 = true := rfl
      have fa : firstAct f 0 false = 2 := by unfold firstAct; rw [w0, w1, w2]; rfl
      rw [fa]
      simp only [doF, Bool.false_eq_true, if_false]
      have hne : (f.st.next != ((n0 + i : Nat) : Int) % 256) = false := by rw [h5]; simp
      rw [hne, h5]
  · rw [if_neg c1]
    by_cases c2 : N < i
    · rw [if_pos c2]
      have ea : (((n0 + i : Nat) : Int) % 256 - ((n0 + N : Nat) : Int) % 256) % 256 = ((i - N : Nat) : Int) := by omega
      rw [ea] at w0 ⊢
      have hz : (((i - N : Nat) : Int) == 0) = false := by simp only [beq_eq_false_iff_ne, ne_eq]; omega
      have w1 : whenB f ((i - N : Nat) : Int) room 1 = false := by show (((i - N : Nat) : Int) == 0 && room) = false; rw [hz]; rfl
      have w2 : whenB f ((i - N : Nat) : Int) room 2 = false := hz
      have w3 : whenB f ((i - N : Nat) : Int) room 3 = true := by show decide (((i - N : Nat) : Int) < f.half) = true; rw [h2]; simp; omega
      have fa : firstAct f ((i - N : Nat) : Int) room = 3 := by unfold firstAct; rw [w0, w1, w2, w3]; rfl
      rw [fa]
      simp only [doF]
      have hne : (f.st.next != ((n0 + N : Nat) : Int) % 256) = false := by rw [h5]; simp
      rw [hne, h5]
    · rw [if_neg c2]
      have ea : (((n0 + i : Nat) : Int) % 256 - ((n0 + N : Nat) : Int) % 256) % 256 = 256 - ((N - i : Nat) : Int) := by omega
      rw [ea] at w0 ⊢
      have hz : ((256 - ((N - i : Nat) : Int)) == 0) = false := by simp only [beq_eq_false_iff_ne, ne_eq]; omega
      have w1 : whenB f (256 - ((N - i : Nat) : Int)) room 1 = false := by show ((256 - ((N - i : Nat) : Int)) == 0 && room) = false; rw [hz]; rfl
      have w2 : whenB f (256 - ((N - i : Nat) : Int)) room 2 = false := hz
      have w3 : whenB f (256 - ((N - i : Nat) : Int)) room 3 = false := by show decide ((256 - ((N - i : Nat) : Int)) < f.half) = false; rw [h2]; simp; omega
      have w4 : whenB f (256 - ((N - i : Nat) : Int)) room 4 = true := by show decide (256 - f.half ≤ (256 - ((N - i : Nat) : Int))) = true; rw [h2]; simp; omega
      have fa : firstAct f (256 - ((N - i : Nat) : Int)) room = 4 := by unfold firstAct; rw [w0, w1, w2, w3, w4]; rfl
      rw [fa]
      simp only [doF]
      have hne : (f.st.next != ((n0 + N : Nat) : Int) % 256) = false := by rw [h5]; simp
      rw [hne]
/-- A frame that has gone is under way no more. -/
theorem Inv.tail (h : Inv k n0 L tm p ups dws b) (o : Option Nat) (us : List (Option Nat)) (hu : ups = o :: us) (l : List Tc) (hl : l = us.map (frOf n0 p.units)) : Inv k n0 L tm { p with up := l } us dws b := by
  subst hu
  exact { h with hup := hl, u1 := fun i hi => h.u1 i (List.mem_cons_of_mem _ hi), u2 := fun i hi => h.u2 i (List.mem_cons_of_mem _ hi), u3 := (List.pairwise_cons.1 h.u3).2, .. }
theorem Inv.arrive (h : Inv k n0 L tm p ups dws b) (x : Tc) (l : List Tc) (hx : p.up = x :: l) (room : Bool) :
    (takeF p.f x room).2.2 = 0 ∧ (x.byp = true → x.data = bypD) ∧ ((takeF p.f x room).2.1 = true → x.byp = false → p.acc.length < p.units.length ∧ p.units.getD p.acc.length ⟨#[]⟩ = x.data) ∧
    ∃ o us, ups = o :: us ∧ Inv k n0 L tm { p with f := (takeF p.f x room).1, up := l, acc := if ((takeF p.f x room).2.1 && !x.byp) = true then p.acc ++ [x.data] else p.acc } us dws b := by
  have hup := h.hup
  rw [hx] at hup
  cases hu : ups with
  | nil => rw [hu] at hup; cases hup
  | cons o us =>
    rw [hu, List.map_cons] at hup
    injection hup with hxo hlo
    have ht := h.tail o us hu l hlo
    have hlen := h.len
    cases o with
    | none =>
      have e : takeF p.f x room = (⟨p.f.craft, p.f.half, ⟨p.f.st.chan, p.f.st.lockout, p.f.st.wait, p.f.st.retx, (p.f.st.bypd + 1) % 4, p.f.st.next⟩⟩, true, 0) := by
        rw [hxo]
        unfold takeF
        have e1 : ((frOf n0 p.units none).craft == p.f.craft) = true := by rw [h.fcraft]; rfl
        have e2 : ((frOf n0 p.units none).chan == p.f.st.chan) = true := by rw [h.fchan]; rfl
        have e3 : (frOf n0 p.units none).byp = true := rfl
        have e4 : (frOf n0 p.units none).good = true := rfl
        rw [e1, e2, e3, e4]
        rfl
      have hb : x.byp = true := by rw [hxo]; rfl
      rw [e, hb]
      refine ⟨rfl, fun _ => by rw [hxo]; rfl, (fun _ hc => by cases hc), _, us, rfl, ?_⟩
      exact { ht with fbyp := ⟨by show 0 ≤ (p.f.st.bypd + 1) % 4; omega, by show (p.f.st.bypd + 1) % 4 ≤ 3; omega⟩, .. }
    | some i =>
      have hi1 := h.u1 i (by rw [hu]; simp)
      have hi2 := h.u2 i (by rw [hu]; simp)
      have hsl := h.sl; have hbN := h.bN; have hNb := h.Nb
      have hg := frOf_good n0 p.units i (by omega) h.uz
      have e := take_data p.f n0 k p.acc.length i p.units room h.hk h.fcraft h.fhalf h.fchan h.flock h.fnext hg hi2 (by omega)
      have hb : x.byp = false := by rw [hxo]; rfl
      have hd : x.data = p.units.getD i ⟨#[]⟩ := by rw [hxo]; rfl
      rw [← hxo] at e
      by_cases c1 : i = p.acc.length
      · rw [if_pos c1] at e
        cases room with
        | true =>
          simp only [if_true] at e
          rw [e, hb]
          have hlt : p.acc.length < p.units.length := by omega
          refine ⟨rfl, (fun hc => by cases hc), fun _ _ => ⟨hlt, by rw [hd, c1]⟩, _, us, rfl, ?_⟩
          have hl1 : (p.acc ++ [x.data]).length = p.acc.length + 1 := by simp
          refine { ht with fnext := ?_, hacc := ?_, bN := ?_, Nb := ?_, u2 := ?_, d1 := ?_, .. }
          · show (p.f.st.next + 1) % 256 = ((n0 + (p.acc ++ [x.data]).length : Nat) : Int) % 256
            have := h.fnext
            rw [hl1]; omega
          · show p.acc ++ [x.data] = p.units.take (p.acc ++ [x.data]).length
            rw [hl1, List.take_succ_eq_append_getElem hlt, ← h.hacc, hd, c1, List.getD_eq_getElem?_getD, List.getElem?_eq_getElem hlt]
            rfl
          · show b ≤ (p.acc ++ [x.data]).length
            rw [hl1]; omega
          · show (p.acc ++ [x.data]).length ≤ b + p.s.sent.length
            rw [hl1]; omega
          · intro j hj
            show (p.acc ++ [x.data]).length ≤ j + k
            have h3 := h.u3
            rw [hu] at h3
            have := (List.pairwise_cons.1 h3).1 (some j) hj i j rfl rfl
            rw [hl1]; omega
          · intro y hy
            have := h.d1 y hy
            exact ⟨this.1, by show y.n ≤ (p.acc ++ [x.data]).length; rw [hl1]; omega, this.2.2⟩
        | false =>
          simp only [Bool.false_eq_true, if_false] at e
          rw [e, hb]
          exact ⟨rfl, (fun hc => by cases hc), (fun hc => by cases hc), _, us, rfl, { ht with .. }⟩
      · rw [if_neg c1] at e
        by_cases c2 : p.acc.length < i
        · rw [if_pos c2] at e
          rw [e, hb]
          exact ⟨rfl, (fun hc => by cases hc), (fun hc => by cases hc), _, us, rfl, { ht with .. }⟩
        · rw [if_neg c2] at e
          rw [e, hb]
          exact ⟨rfl, (fun hc => by cases hc), (fun hc => by cases hc), _, us, rfl, { ht with .. }⟩
/-- A control word is sent. -/
theorem Inv.word (h : Inv k n0 L tm p ups dws b) : Inv k n0 L tm { p with down := p.down ++ [wordN 2 p.f.st.bypd.toNat ((n0 + p.acc.length) % 256) false p.f.st.wait p.f.st.retx] } ups (dws ++ [⟨p.acc.length, p.f.st.bypd.toNat, p.f.st.wait, p.f.st.retx⟩]) b := by
  have hb := h.fbyp
  refine { h with hdown := ?_, d1 := ?_, d2 := ?_, .. }
  · show p.down ++ _ = _
    rw [List.map_append, h.hdown]; rfl
  · intro x hx
    rcases List.mem_append.1 hx with hx | hx
    · exact h.d1 x hx
    · simp at hx
      subst hx
      exact ⟨h.bN, Nat.le_refl _, by show p.f.st.bypd.toNat ≤ 3; omega⟩
  · refine List.pairwise_append.2 ⟨h.d2, by simp, ?_⟩
    intro x hx y hy
    simp at hy
    subst hy
    exact (h.d1 x hx).2.1
theorem Inv.free (h : Inv k n0 L tm p ups dws b) : Inv k n0 L tm { p with f := ⟨p.f.craft, p.f.half, ⟨p.f.st.chan, p.f.st.lockout, false, p.f.st.retx, p.f.st.bypd, p.f.st.next⟩⟩ } ups dws b := { h with .. }
end
end
section
theorem on_off (l : List Ut) : (l.map Ut.on).map Ut.off = l.map Ut.off := by
  rw [List.map_map]
  exact List.map_congr_left fun _ _ => rfl
theorem wordF_is (s : Fs) (xn : Int) (xw xr : Bool) (kn : Nat) : ∃ tr cl ak se, wordF s xn xw xr kn = { s with base := xn, held := xw, tries := tr, clock := cl, asked := ak, sent := se, events := s.events ++ (s.sent.take kn).map ackEv } ∧
    (tr = 1 ∧ cl = s.timeout ∨ tr = s.tries ∧ cl = s.clock) ∧ se.map Ut.off = (s.sent.drop kn).map Ut.off ∧ se.length = s.sent.length - kn := by
  unfold wordF takenF ackF markF
  by_cases hk : 0 < kn
  · simp only [if_pos hk]
    split
    · exact ⟨_, _, _, _, rfl, .inl ⟨rfl, rfl⟩, on_off _, by simp⟩
    · exact ⟨_, _, _, _, rfl, .inl ⟨rfl, rfl⟩, rfl, by simp⟩
  · simp only [if_neg hk]
    split
    · exact ⟨_, _, _, _, rfl, .inr ⟨rfl, rfl⟩, on_off _, by simp⟩
    · exact ⟨_, _, _, _, rfl, .inr ⟨rfl, rfl⟩, rfl, by simp⟩
section
variable {k n0 L : Nat} {tm : Int} {p : Pr} {ups : List (Option Nat)} {dws : List Dw} {b : Nat}
theorem Inv.hear (h : Inv k n0 L tm p ups dws b) (x : Dw) (ds : List Dw) (hd : dws = x :: ds) :
    b ≤ x.n ∧ x.n ≤ p.acc.length ∧ x.n - b ≤ p.s.sent.length ∧ (((n0 + x.n) % 256 : Nat) - p.s.base) % 256 = ((x.n - b : Nat) : Int) ∧
    (wordF p.s ((n0 + x.n) % 256 : Nat) x.wait x.retx (x.n - b)).events = (p.s.sent.take (x.n - b)).map ackEv ∧
    Inv k n0 L tm { p with s := { wordF p.s ((n0 + x.n) % 256 : Nat) x.wait x.retx (x.n - b) with events := [] }, down := ds.map (dwN n0), acked := x.n } ups ds x.n := by
  subst hd
  have h1 := h.d1 x (by simp)
  have hsl := h.sl; have hNb := h.Nb; have hbase := h.base; have hk := h.hk; have hlen := h.len; have htr := h.tries; have hcl := h.clock; have hL := h.hL; have htm := h.htm; have hto := h.timeout
  have hkc : (((n0 + x.n) % 256 : Nat) - p.s.base) % 256 = ((x.n - b : Nat) : Int) := by omega
  obtain ⟨tr, cl, ak, se, e, e1, e2, e3⟩ := wordF_is p.s ((n0 + x.n) % 256 : Nat) x.wait x.retx (x.n - b)
  refine ⟨h1.1, h1.2.1, by omega, hkc, ?_, ?_⟩
  · rw [e]
    show p.s.events ++ _ = _
    rw [h.ev]; rfl
  · rw [e]
    have hr := h.rest
    refine { h with ev := rfl, clock := ?_, tries := ?_, base := ?_, rest := ?_, bu := ?_, sl := ?_, bN := h1.2.1, Nb := ?_, acked := rfl, u1 := ?_, hdown := rfl, d1 := ?_, d2 := (List.pairwise_cons.1 h.d2).2, .. }
    · show 1 ≤ cl ∧ cl ≤ tm
      rcases e1 with ⟨_, e1⟩ | ⟨_, e1⟩ <;> omega
    · show 1 ≤ tr ∧ tr ≤ (L : Int)
      rcases e1 with ⟨e1, _⟩ | ⟨e1, _⟩ <;> omega
    · show (((n0 + x.n) % 256 : Nat) : Int) = _
      omega
    · show (se ++ p.s.waiting).map Ut.off = _
      have hd2 := congrArg (List.drop (x.n - b)) hr
      rw [← List.map_drop, List.drop_append_of_le_length (by omega), List.drop_drop, List.map_append, ← e2, ← List.map_append] at hd2
      rw [hd2]
      congr 1
      omega
    · show x.n ≤ p.units.length
      omega
    · show se.length ≤ k
      omega
    · show p.acc.length ≤ x.n + se.length
      omega
    · intro i hi
      show i < x.n + se.length
      have := h.u1 i hi
      omega
    · intro y hy
      have h2 := h.d1 y (List.mem_cons_of_mem _ hy)
      exact ⟨(List.pairwise_cons.1 h.d2).1 y hy, h2.2⟩
theorem Inv.tick (h : Inv k n0 L tm p ups dws b) (by_ : Int) (hb : 0 ≤ by_) : ((tickF p.s by_).2 = [] ∧ Inv k n0 L tm { p with s := (tickF p.s by_).1 } ups dws b) ∨ (tickF p.s by_).2 = [⟨3, 0, 1⟩] := by
  have htr := h.tries; have hcl := h.clock; have hto := h.timeout; have htm := h.htm; have hli := h.limit
  unfold tickF
  split
  · exact .inl ⟨rfl, h⟩
  · split
    · rename_i hc
      exact .inl ⟨rfl, { h with clock := ⟨by show 1 ≤ p.s.clock - by_; omega, by show p.s.clock - by_ ≤ tm; omega⟩, .. }⟩
    · split
      · exact .inr rfl
      · rename_i hc hl
        refine .inl ⟨rfl, { h with due := ?_, clock := ?_, tries := ?_, rest := ?_, sl := ?_, Nb := ?_, u1 := ?_, .. }⟩
        · show (p.s.service == 1 && p.s.how != 2) = false
          rw [h.serv]; rfl
        · show 1 ≤ p.s.timeout ∧ p.s.timeout ≤ tm
          omega
        · show 1 ≤ p.s.tries + 1 ∧ p.s.tries + 1 ≤ (L : Int)
          omega
        · show ((p.s.sent.map Ut.on) ++ p.s.waiting).map Ut.off = _
          rw [List.map_append, on_off, ← List.map_append]; exact h.rest
        · show (p.s.sent.map Ut.on).length ≤ k
          rw [List.length_map]; exact h.sl
        · show p.acc.length ≤ b + (p.s.sent.map Ut.on).length
          rw [List.length_map]; exact h.Nb
        · intro i hi
          show i < b + (p.s.sent.map Ut.on).length
          rw [List.length_map]; exact h.u1 i hi
/-- The ids that are acknowledged. -/
theorem Inv.acks (h : Inv k n0 L tm p ups dws b) (kn : Nat) (hk : kn ≤ p.s.sent.length) : (p.s.sent.take kn).map ackEv = (List.range kn).map fun i => (⟨2, ((b + i : Nat) : Int) + 1, 0⟩ : Ev) := by
  refine List.ext_getElem (by simp; omega) fun i h1 h2 => ?_
  have hi : i < p.s.sent.length := by simp at h1; omega
  simp only [List.getElem_map, List.getElem_take, List.getElem_range, ackEv]
  rw [(h.sentAt i hi).1]
end
end
end Go.Proofs.Ytbncejmohhejlaa
