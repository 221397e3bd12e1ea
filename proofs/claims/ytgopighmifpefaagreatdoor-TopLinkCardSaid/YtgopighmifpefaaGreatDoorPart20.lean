/- What is proved here: a part of the proof of TopLink (texts F7 Fo15 Lk). No condition. -/
import Derived.Test.YtgopighmifpefaaGreatDoorPart09
import Derived.Test.YtgopighmifpefaaGreatDoorPart10
set_option linter.unusedVariables false
set_option linter.unusedSimpArgs false
namespace Go.Proofs.YtgopighmifpefaaGreatDoor
section
open Go.RowKit
def Fm.start (c h ch : Int) : Fm := ⟨c, h, ⟨ch, false, false, false, 0, 0⟩⟩
theorem even_and : ∀ n : Nat, n < 255 → bits .and .i64 (n : Int) 1 = ((n % 2 : Nat) : Int) := by decide +kernel
set_option maxHeartbeats 4000000 in
set_option maxRecDepth 100000 in
theorem New_ok (c ch h : Int) (w : World) (h1 : 0 ≤ c) (h2 : c ≤ 255) (h3 : 0 ≤ ch) (h4 : ch < 8) (h5 : 1 ≤ h) (h6 : h ≤ 127) : Calls Tryz.prog 16 #[.int .i64 c, .int .i64 ch, .int .i64 (2 * h)] w fun e w' => e = .returned (.tuple #[.pointer (some ⟨w.heap.size, 0, none⟩), .int .i64 0]) ∧ Below w.heap.size w w' ∧ Blk w' w.heap.size (Fm.start c h ch).cells 80 := by
  have d1 : decide (c < 0) = false := by simp; omega
  have d2 : decide (255 < c) = false := by simp; omega
  have d3 : decide (ch < 0) = false := by simp; omega
  have d4 : decide (8 ≤ ch) = false := by simp; omega
  have d6 : decide (2 * h < 2) = false := by simp; omega
  have d7 : decide (254 < 2 * h) = false := by simp; omega
  have d5 : bits .and .i64 (2 * h) 1 = 0 := by
    have := even_and (2 * h).toNat (by omega)
    rw [show (((2 * h).toNat : Nat) : Int) = 2 * h by omega] at this
    rw [this]; omega
  have hq : 2 * h / 2 = h := by omega
  obtain ⟨wd, hwd⟩ : ∃ wd, wd = 2 * h := ⟨_, rfl⟩
  rw [← hwd] at d5 d6 d7 hq ⊢
  have hb1 : 2 ≤ wd := by omega
  have hb2 : wd ≤ 254 := by omega
  have HWD := Lib.hid hwd; clear hwd
  go_enter Tryz.func16, Tryz.ntmps16
  go_wp2_with fail
  go_ret2
  exact ⟨rfl, (Below.refl _ _).alloc (Nat.le_refl _) _, Blk.new w (Fm.start c h ch).cells _⟩
set_option maxHeartbeats 4000000 in
set_option maxRecDepth 100000 in
theorem Word_any (cr h : Int) (ch by_ nx : Nat) (lo wa re : Bool) (g : Nat) (w : World) (hh : h ≠ 0) (h1 : ch ≤ 7) (h2 : by_ ≤ 3) (h3 : nx ≤ 255) (hB : Blk w g (Fm.mk cr h ⟨ch, lo, wa, re, by_, nx⟩).cells 80) :
    Calls Tryz.prog 9 #[.pointer (some ⟨g, 0, none⟩)] w fun e w' => e = .returned (.int .u32 (wordN ch by_ nx lo wa re : Nat)) ∧ Below w.heap.size w w' := by
  have hn := Lib.hid (none_any _ g w false (by simpa using hh) hB)
  have hp := PutWord_ok ch by_ nx lo wa re w h1 h2 h3
  simp only [Wd.val] at hp
  have HP := Lib.hid hp; clear hp
  have HB := Lib.hid hB; clear hB
  have c0 := HB.out.cell 0
  have c1 := HB.out.cell 1
  have c2 := HB.out.cell 2
  have c3 := HB.out.cell 3
  have c4 := HB.out.cell 4
  have c5 := HB.out.cell 5
  have c6 := HB.out.cell 6
  have c7 := HB.out.cell 7
  simp only [Fm.cells, List.getElem?_cons_zero, List.getElem?_cons_succ] at c0 c1 c2 c3 c4 c5 c6 c7
  go_enter Tryz.func9, Tryz.ntmps9
  go_wp2_with fail
  refine hn.out.mono ?_
  rintro e w1 ⟨rfl, rfl⟩
  go_wp2_with fail
  refine HP.out.mono ?_
  rintro e w1 ⟨rfl, hL1⟩
  have HL1 := Lib.hid hL1; clear hL1
  go_wp2_with fail
  go_ret
  exact ⟨rfl, HL1.out⟩
end
section
open Go.RowKit
theorem readV_word (ch by_ nx : Nat) (x y z : Bool) (h1 : ch ≤ 7) (h2 : by_ ≤ 3) (h3 : nx ≤ 255) : readV (wordN ch by_ nx x y z) = .tuple #[.agg #[.int .i64 (ch : Nat), .bool x, .bool y, .bool z, .int .i64 (by_ : Nat), .int .i64 (nx : Nat)], .int .i64 0] := by
  obtain ⟨n, hn⟩ : ∃ n, n = wordN ch by_ nx x y z := ⟨_, rfl⟩
  have hx := bn_le x; have hy := bn_le y; have hz := bn_le z
  have e0 : n = (256 + ch) * 65536 + (by_ + 128 * bn x + 64 * bn y + 32 * bn z) * 256 + nx := hn
  have a1 : n / 65536 % 8 = ch := by omega
  have a2 : n / 256 % 4 = by_ := by omega
  have a3 : n % 256 = nx := by omega
  have bb : ∀ (b : Bool) (m : Nat), m = bn b → (m == 1) = b := by intro b m h; subst h; cases b <;> rfl
  have b15 : n.testBit 15 = x := by rw [bit_div]; exact bb x _ (by omega)
  have b14 : n.testBit 14 = y := by rw [bit_div]; exact bb y _ (by omega)
  have b13 : n.testBit 13 = z := by rw [bit_div]; exact bb z _ (by omega)
  rw [← hn]
  unfold readV rdN rdW
  rw [a1, a2, a3, b15, b14, b13, if_pos hn.symm]
  rfl
section
variable (g : Nat) (S : List Nat) (w : World)
end
end
section
open Go.RowKit
namespace Lk
section
def bypD : ByteArray := ⟨#[98, 121, 112, 97, 115, 115]⟩
structure Pr where
  s : Fs
  f : Fm
  up : List Tc
  down : List Nat
  units : List ByteArray
  acc : List ByteArray
  acked : Nat
  alert : Int
structure Dw where
  n : Nat
  bypd : Nat
  wait : Bool
  retx : Bool
def frOf (n0 : Nat) (units : List ByteArray) : Option Nat → Tc
  | none => ⟨1, 0, true, false, 0, bypD⟩
  | some i => ⟨1, 0, false, false, ((n0 + i : Nat) : Int) % 256, units.getD i ⟨#[]⟩⟩
def dwN (n0 : Nat) (x : Dw) : Nat := wordN 0 x.bypd ((n0 + x.n) % 256) false x.wait x.retx
def numU (units : List ByteArray) : List Ut := units.mapIdx fun i d => ⟨(i : Int) + 1, d, false⟩
theorem numU_len (l : List ByteArray) : (numU l).length = l.length := by simp [numU]
theorem numU_snoc (l : List ByteArray) (d : ByteArray) : numU (l ++ [d]) = numU l ++ [⟨(l.length : Int) + 1, d, false⟩] := by
  simp [numU, List.mapIdx_append]
theorem numU_at (l : List ByteArray) (i : Nat) (h : i < l.length) : (numU l)[i]? = some ⟨(i : Int) + 1, l.getD i ⟨#[]⟩, false⟩ := by
  simp [numU, List.getElem?_mapIdx, List.getD_eq_getElem?_getD, List.getElem?_eq_getElem h]
theorem frOf_snoc (n0 : Nat) (l : List ByteArray) (d : ByteArray) (x : Option Nat) (h : ∀ i, x = some i → i < l.length) : frOf n0 (l ++ [d]) x = frOf n0 l x := by
  cases x with
  | none => rfl
  | some i =>
    have := h i rfl
    simp [frOf, List.getD_eq_getElem?_getD, List.getElem?_append_left this]
/-- What always holds while there was no alert. -/
structure Inv (k n0 L : Nat) (tm : Int) (p : Pr) (ups : List (Option Nat)) (dws : List Dw) (b : Nat) : Prop where
  hk : 1 ≤ k ∧ k ≤ 127
  hL : 1 ≤ L ∧ L ≤ 100
  htm : 1 ≤ tm ∧ tm ≤ 1073741824
  serv : p.s.service = 2
  susp : p.s.susp = false
  due : p.s.due = false
  win : p.s.window = k
  craft : p.s.craft = 1
  chan : p.s.chan = 0
  limit : p.s.limit = L
  timeout : p.s.timeout = tm
  ev : p.s.events = []
  last : p.s.last = p.units.length
  clock : 1 ≤ p.s.clock ∧ p.s.clock ≤ tm
  tries : 1 ≤ p.s.tries ∧ p.s.tries ≤ L
  base : p.s.base = ((n0 + b : Nat) : Int) % 256
  rest : (p.s.sent ++ p.s.waiting).map Ut.off = (numU p.units).drop b
  bu : b ≤ p.units.length
  sl : p.s.sent.length ≤ k
  wl : p.s.waiting.length ≤ 256
  wm : ∀ u ∈ p.s.waiting, u.mark = false
  byp : ∀ d ∈ p.s.byp, d = bypD
  bl : p.s.byp.length ≤ 256
  fcraft : p.f.craft = 1
  fhalf : p.f.half = k
  fchan : p.f.st.chan = 0
  flock : p.f.st.lockout = false
  fbyp : 0 ≤ p.f.st.bypd ∧ p.f.st.bypd ≤ 3
  fnext : p.f.st.next = ((n0 + p.acc.length : Nat) : Int) % 256
  hacc : p.acc = p.units.take p.acc.length
  bN : b ≤ p.acc.length
  Nb : p.acc.length ≤ b + p.s.sent.length
  acked : p.acked = b
  hup : p.up = ups.map (frOf n0 p.units)
  u1 : ∀ i, some i ∈ ups → i < b + p.s.sent.length
  u2 : ∀ i, some i ∈ ups → p.acc.length ≤ i + k
  u3 : ups.Pairwise (fun x y => ∀ i j, x = some i → y = some j → i < j + k)
  hdown : p.down = dws.map (dwN n0)
  d1 : ∀ x ∈ dws, b ≤ x.n ∧ x.n ≤ p.acc.length ∧ x.bypd ≤ 3
  d2 : dws.Pairwise (fun x y => x.n ≤ y.n)
  uz : ∀ d ∈ p.units, 1 ≤ d.size ∧ d.size ≤ 200
  al : p.alert = 0
section
variable {k n0 L : Nat} {tm : Int} {p : Pr} {ups : List (Option Nat)} {dws : List Dw} {b : Nat}
theorem Inv.fine (h : Inv k n0 L tm p ups dws b) : p.s.fine := by
  have h1 := h.hk; have h2 := h.sl; have h3 := h.base
  exact ⟨by rw [h.win]; omega, h.due, h.susp, by omega, by omega, by omega, h.wl, h.bl, h.ev⟩
theorem Inv.fok (h : Inv k n0 L tm p ups dws b) : p.f.ok := by
  have h1 := h.hk; have h2 := h.fhalf; have h3 := h.fnext; have h4 := h.fbyp
  exact ⟨by omega, by omega, h4.1, h4.2, by omega, by omega⟩
theorem Inv.len (h : Inv k n0 L tm p ups dws b) : b + p.s.sent.length + p.s.waiting.length = p.units.length := by
  have := congrArg List.length h.rest
  simp [numU_len] at this
  have := h.bu
  omega
/-- The unit i of those that were sent. -/
theorem Inv.sentAt (h : Inv k n0 L tm p ups dws b) (i : Nat) (hi : i < p.s.sent.length) : p.s.sent[i].id = ((b + i : Nat) : Int) + 1 ∧ p.s.sent[i].data = p.units.getD (b + i) ⟨#[]⟩ := by
  have hl := h.len
  have h1 : ((p.s.sent ++ p.s.waiting).map Ut.off)[i]? = some p.s.sent[i].off := by
    rw [List.getElem?_map, List.getElem?_append_left hi, List.getElem?_eq_getElem hi]; rfl
  rw [h.rest, List.getElem?_drop, numU_at _ _ (by omega)] at h1
  have h2 := Option.some.inj h1
  have e1 := congrArg Ut.id h2
  have e2 := congrArg Ut.data h2
  exact ⟨e1.symm, e2.symm⟩
theorem Inv.waitAt (h : Inv k n0 L tm p ups dws b) (u : Ut) (l : List Ut) (hw : p.s.waiting = u :: l) : u.data = p.units.getD (b + p.s.sent.length) ⟨#[]⟩ := by
  have hl := h.len
  have hp : (p.s.waiting).length = l.length + 1 := by rw [hw]; rfl
  have h1 : ((p.s.sent ++ p.s.waiting).map Ut.off)[p.s.sent.length]? = some u.off := by
    rw [List.getElem?_map, List.getElem?_append_right (Nat.le_refl _), hw]; simp
  rw [h.rest, List.getElem?_drop, numU_at _ _ (by omega)] at h1
  exact (congrArg Ut.data (Option.some.inj h1)).symm
theorem Inv.send (h : Inv k n0 L tm p ups dws b) (d : ByteArray) (hd : 1 ≤ d.size ∧ d.size ≤ 200) (hw : p.s.waiting.length < 256) :
    Inv k n0 L tm { p with s := sendF p.s d, units := p.units ++ [d] } ups dws b := by
  have hl := h.len
  refine { h with last := ?_, rest := ?_, bu := ?_, wl := ?_, wm := ?_, hacc := ?_, hup := ?_, uz := ?_, .. }
  · show p.s.last + 1 = _
    rw [h.last]; simp
  · show ((p.s.sent ++ (p.s.waiting ++ [(⟨p.s.last + 1, d, false⟩ : Ut)])).map Ut.off) = _
    rw [← List.append_assoc, List.map_append, h.rest, numU_snoc, List.drop_append_of_le_length (by rw [numU_len]; exact h.bu), h.last]
    rfl
  · simp; have := h.bu; omega
  · show (p.s.waiting ++ [_]).length ≤ 256
    simp; omega
  · intro u hu
    rcases List.mem_append.1 hu with hu | hu
    · exact h.wm u hu
    · simp at hu; subst hu; rfl
  · have h1 := h.hacc; have h2 := h.Nb
    show p.acc = (p.units ++ [d]).take p.acc.length
    rw [List.take_append_of_le_length (by omega)]; exact h1
  · show p.up = ups.map (frOf n0 (p.units ++ [d]))
    rw [h.hup]
    refine List.map_congr_left fun x hx => (frOf_snoc n0 p.units d x ?_).symm
    rintro i rfl
    have := h.u1 i hx
    omega
  · intro e he
    rcases List.mem_append.1 he with he | he
    · exact h.uz e he
    · simp at he; subst he; exact hd
end
end
section
section
variable {k n0 L : Nat} {tm : Int} {p : Pr} {ups : List (Option Nat)} {dws : List Dw} {b : Nat}
theorem Inv.push (h : Inv k n0 L tm p ups dws b) (o : Option Nat) (ho : ∀ i, o = some i → b ≤ i ∧ i < b + p.s.sent.length) : Inv k n0 L tm { p with up := p.up ++ [frOf n0 p.units o] } (ups ++ [o]) dws b := by
  have hsl := h.sl; have hNb := h.Nb
  refine { h with hup := ?_, u1 := ?_, u2 := ?_, u3 := ?_, .. }
  · show p.up ++ _ = _
    rw [List.map_append, h.hup]; rfl
  · intro i hi
    rcases List.mem_append.1 hi with hi | hi
    · exact h.u1 i hi
    · simp at hi; exact (ho i hi.symm).2
  · intro i hi
    rcases List.mem_append.1 hi with hi | hi
    · exact h.u2 i hi
    · simp at hi
      have := ho i hi.symm
      show p.acc.length ≤ i + k
      omega
  · refine List.pairwise_append.2 ⟨h.u3, by simp, ?_⟩
    intro x hx y hy i j hi hj
    simp at hy
    subst hi hj
    have h1 := h.u1 i hx
    have h2 := ho j hy.symm
    omega
theorem map_off_set (l : List Ut) (j : Nat) (hj : j < l.length) (m : Bool) : (l.set j ⟨l[j].id, l[j].data, m⟩).map Ut.off = l.map Ut.off := by
  rw [List.map_set]
  refine List.ext_getElem (by simp) fun i h1 h2 => ?_
  rw [List.getElem_set]
  split
  · rename_i e; subst e; simp [Ut.off]
  · rfl
theorem Inv.next (h : Inv k n0 L tm p ups dws b) : Inv k n0 L tm { p with s := (nextF p.s).1 } ups dws b ∧
    ∀ x, (nextF p.s).2 = some x → ∃ o, x = frOf n0 p.units o ∧ ∀ i, o = some i → b ≤ i ∧ i < b + (nextF p.s).1.sent.length := by
  have hself : Inv k n0 L tm { p with s := p.s } ups dws b := h
  have hlen := h.len
  have hb := h.base
  unfold nextF
  split
  · rename_i d l hd
    have hdd := h.byp d (by rw [hd]; simp)
    refine ⟨{ h with byp := fun e he => h.byp e (by rw [hd]; simp [he]), bl := ?_, .. }, fun x hx => ⟨none, ?_, fun i hi => by cases hi⟩⟩
    · have := h.bl; rw [hd] at this; simp at this; show l.length ≤ 256; omega
    · injection hx with hx
      rw [← hx, h.craft, h.chan, hdd]; rfl
  · split
    · exact ⟨hself, fun x hx => by cases hx⟩
    · split
      · rename_i j hj
        obtain ⟨hlt, hm, hm0⟩ := List.findIdx?_eq_some_iff_getElem.1 hj
        have hg : p.s.sent.getD j ⟨0, ⟨#[]⟩, false⟩ = p.s.sent[j] := by rw [List.getD_eq_getElem?_getD, List.getElem?_eq_getElem hlt]; rfl
        rw [hg]
        refine ⟨{ h with rest := ?_, sl := ?_, Nb := ?_, u1 := ?_, .. }, fun x hx => ⟨some (b + j), ?_, ?_⟩⟩
        · show ((p.s.sent.set j _ ++ p.s.waiting).map Ut.off) = _
          rw [List.map_append, map_off_set p.s.sent j hlt false, ← List.map_append]; exact h.rest
        · show (p.s.sent.set j _).length ≤ k
          rw [List.length_set]; exact h.sl
        · show p.acc.length ≤ b + (p.s.sent.set j _).length
          rw [List.length_set]; exact h.Nb
        · intro i hi
          show i < b + (p.s.sent.set j _).length
          rw [List.length_set]; exact h.u1 i hi
        · injection hx with hx
          rw [← hx, h.craft, h.chan, (h.sentAt j hlt).2, h.base]
          simp only [frOf]
          congr 1
          omega
        · intro i hi
          injection hi with hi
          show b ≤ i ∧ i < b + (p.s.sent.set j _).length
          rw [List.length_set]; omega
      · split
        · exact ⟨hself, fun x hx => by cases hx⟩
        · rename_i u l hw
          split
          · exact ⟨hself, fun x hx => by cases hx⟩
          · rename_i hf
            have hwin := h.win
            have hn : (newSent p.s u l).sent = p.s.sent ++ [u] ∧ (newSent p.s u l).waiting = l := ⟨rfl, rfl⟩
            have hll : p.s.waiting.length = l.length + 1 := by rw [hw]; rfl
            have hwl := h.wl
            have hfield : ∀ {α : Type} (F : Fs → α), (∀ (t : Fs) a c, F { t with tries := a, clock := c } = F t) → (∀ (t : Fs) a c, F { t with waiting := a, sent := c } = F t) → F (newSent p.s u l) = F p.s := by
              intro α F h1 h2
              unfold newSent
              rw [h2]
              split
              · exact h1 _ _ _
              · rfl
            refine ⟨{ h with serv := ?_, susp := ?_, due := ?_, win := ?_, craft := ?_, chan := ?_, limit := ?_, timeout := ?_, ev := ?_, last := ?_, clock := ?_, tries := ?_, base := ?_, rest := ?_, sl := ?_, wl := ?_, wm := ?_, byp := ?_, bl := ?_, Nb := ?_, u1 := ?_, .. }, fun x hx => ⟨some (b + p.s.sent.length), ?_, ?_⟩⟩
            · exact (hfield Fs.service (fun _ _ _ => rfl) (fun _ _ _ => rfl)).trans h.serv
            · exact (hfield Fs.susp (fun _ _ _ => rfl) (fun _ _ _ => rfl)).trans h.susp
            · exact (hfield Fs.due (fun _ _ _ => rfl) (fun _ _ _ => rfl)).trans h.due
            · exact (hfield Fs.window (fun _ _ _ => rfl) (fun _ _ _ => rfl)).trans h.win
            · exact (hfield Fs.craft (fun _ _ _ => rfl) (fun _ _ _ => rfl)).trans h.craft
            · exact (hfield Fs.chan (fun _ _ _ => rfl) (fun _ _ _ => rfl)).trans h.chan
            · exact (hfield Fs.limit (fun _ _ _ => rfl) (fun _ _ _ => rfl)).trans h.limit
            · exact (hfield Fs.timeout (fun _ _ _ => rfl) (fun _ _ _ => rfl)).trans h.timeout
            · exact (hfield Fs.events (fun _ _ _ => rfl) (fun _ _ _ => rfl)).trans h.ev
            · exact (hfield Fs.last (fun _ _ _ => rfl) (fun _ _ _ => rfl)).trans h.last
            · show 1 ≤ (newSent p.s u l).clock ∧ (newSent p.s u l).clock ≤ tm
              have h1 := h.clock; have h2 := h.timeout; have h3 := h.htm
              unfold newSent
              split
              · show 1 ≤ p.s.timeout ∧ p.s.timeout ≤ tm
                omega
              · exact h1
            · show 1 ≤ (newSent p.s u l).tries ∧ (newSent p.s u l).tries ≤ (L : Int)
              have h1 := h.tries; have h2 := h.hL
              unfold newSent
              split
              · show (1 : Int) ≤ 1 ∧ (1 : Int) ≤ (L : Int)
                omega
              · exact h1
            · exact (hfield Fs.base (fun _ _ _ => rfl) (fun _ _ _ => rfl)).trans h.base
            · show ((newSent p.s u l).sent ++ (newSent p.s u l).waiting).map Ut.off = _
              rw [hn.1, hn.2, List.append_assoc, List.singleton_append, ← hw]; exact h.rest
            · show (newSent p.s u l).sent.length ≤ k
              rw [hn.1, List.length_append, List.length_singleton]; omega
            · show (newSent p.s u l).waiting.length ≤ 256
              rw [hn.2]; omega
            · intro v hv
              rw [hn.2] at hv
              exact h.wm v (by rw [hw]; exact List.mem_cons_of_mem _ hv)
            · intro d hd
              exact h.byp d (by rw [← hfield Fs.byp (fun _ _ _ => rfl) (fun _ _ _ => rfl)]; exact hd)
            · show (newSent p.s u l).byp.length ≤ 256
              rw [hfield Fs.byp (fun _ _ _ => rfl) (fun _ _ _ => rfl)]; exact h.bl
            · show p.acc.length ≤ b + (newSent p.s u l).sent.length
              have := h.Nb
              rw [hn.1, List.length_append]; omega
            · intro i hi
              show i < b + (newSent p.s u l).sent.length
              have := h.u1 i hi
              rw [hn.1, List.length_append]; omega
            · injection hx with hx
              rw [← hx, h.craft, h.chan, h.waitAt u l hw, h.base]
              simp only [frOf]
              congr 1
              omega
            · intro i hi
              injection hi with hi
              rw [hn.1, List.length_append, List.length_singleton]; omega
end
end
section
section
variable {k n0 L : Nat} {tm : Int} {p : Pr} {ups : List (Option Nat)} {dws : List Dw} {b : Nat}
theorem frOf_good (n0 : Nat) (units : List ByteArray) (i : Nat) (hi : i < units.length) (hz : ∀ d ∈ units, 1 ≤ d.size ∧ d.size ≤ 200) : (frOf n0 units (some i)).good = true := by
  have h := hz (units.getD i ⟨#[]⟩) (by rw [List.getD_eq_getElem?_getD, List.getElem?_eq_getElem hi]; exact List.getElem_mem hi)
  rw [Tc.good_iff]
  refine ⟨⟨?_, ?_, ?_, ?_, ?_, ?_, h.1, h.2⟩, rfl⟩
  all_goals (simp only [frOf]; omega)
/-- What the automaton on board does with the data frame of index i. -/
theorem take_data (f : Fm) (n0 k N i : Nat) (units : List ByteArray) (room : Bool) (hk : 1 ≤ k ∧ k ≤ 127) (h1 : f.craft = 1) (h2 : f.half = k) (h3 : f.st.chan = 0) (h4 : f.st.lockout = false) (h5 : f.st.next = ((n0 + N : Nat) : Int) % 256)
    (hg : (frOf n0 units (some i)).good = true) (hi1 : N ≤ i + k) (hi2 : i < N + k) :
    takeF f (frOf n0 units (some i)) room =
      (if i = N then (if room then (⟨f.craft, f.half, ⟨f.st.chan, f.st.lockout, f.st.wait, false, f.st.bypd, (f.st.next + 1) % 256⟩⟩, true, 0) else (⟨f.craft, f.half, ⟨f.st.chan, f.st.lockout, true, true, f.st.bypd, f.st.next⟩⟩, false, 0))
      else if N < i then (⟨f.craft, f.half, ⟨f.st.chan, f.st.lockout, f.st.wait, true, f.st.bypd, f.st.next⟩⟩, false, 0) else (f, false, 0)) := by
  unfold takeF
  have e1 : ((frOf n0 units (some i)).craft == f.craft) = true := by rw [h1]; rfl
  have e2 : ((frOf n0 units (some i)).chan == f.st.chan) = true := by rw [h3]; rfl
  have e3 : (frOf n0 units (some i)).byp = false := rfl
  have e4 : (frOf n0 units (some i)).seq = ((n0 + i : Nat) : Int) % 256 := rfl
  rw [hg, e1, e2, e3, e4, h5]
  simp only [Bool.and_self, if_true, Bool.false_eq_true, if_false]
  have w0 : whenB f ((((n0 + i : Nat) : Int) % 256 - ((n0 + N : Nat) : Int) % 256) % 256) room 0 = false := h4
  by_cases c1 : i = N
  · subst c1
    have ea : (((n0 + i : Nat) : Int) % 256 - ((n0 + i : Nat) : Int) % 256) % 256 = 0 := by omega
    rw [ea] at w0 ⊢
    rw [if_pos rfl]
    cases room with
    | true =>
      have w1 : whenB f 0 true 1 = true := rfl
      have fa : firstAct f 0 true = 1 := by unfold firstAct; rw [w0, w1]; rfl
      rw [fa]
      simp only [doF, if_true]
      have hne : ((f.st.next + 1) % 256 != ((n0 + i : Nat) : Int) % 256) = true := by
        rw [bne_iff_ne, h5]; omega
      rw [hne, h5]
    | false =>
      have w1 : whenB f 0 false 1 = false := rfl
      have w2 : whenB f 0 false 2 = true := rfl
      have fa : firstAct f 0 false = 2 := by unfold firstAct; rw [w0, w1, w2]; rfl
      rw [fa]
      simp only [doF, Bool.false_eq_true, if_false]
      have hne : (f.st.next != ((n0 + i : Nat) : Int) % 256) = false := by rw [h5]; simp
      rw [hne, h5]
  · rw [if_neg c1]
    by_cases c2 : N < i
    · rw [if_pos c2]
      have ea : (((n0 + i : Nat) : Int) % 256 - ((n0 + N : Nat) : Int) % 256) % 256 = ((i - N : Nat) : Int) := by omega
      rw [ea] at w0 ⊢
      have hz : (((i - N : Nat) : Int) == 0) = false := by simp only [beq_eq_false_iff_ne, ne_eq]; omega
      have w1 : whenB f ((i - N : Nat) : Int) room 1 = false := by show (((i - N : Nat) : Int) == 0 && room) = false; rw [hz]; rfl
      have w2 : whenB f ((i - N : Nat) : Int) room 2 = false := hz
      have w3 : whenB f ((i - N : Nat) : Int) room 3 = true := by show decide (((i - N : Nat) : Int) < f.half) = true; rw [h2]; simp; omega
      have fa : firstAct f ((i - N : Nat) : Int) room = 3 := by unfold firstAct; rw [w0, w1, w2, w3]; rfl
      rw [fa]
      simp only [doF]
      have hne : (f.st.next != ((n0 + N : Nat) : Int) % 256) = false := by rw [h5]; simp
      rw [hne, h5]
    · rw [if_neg c2]
      have ea : (((n0 + i : Nat) : Int) % 256 - ((n0 + N : Nat) : Int) % 256) % 256 = 256 - ((N - i : Nat) : Int) := by omega
      rw [ea] at w0 ⊢
      have hz : ((256 - ((N - i : Nat) : Int)) == 0) = false := by simp only [beq_eq_false_iff_ne, ne_eq]; omega
      have w1 : whenB f (256 - ((N - i : Nat) : Int)) room 1 = false := by show ((256 - ((N - i : Nat) : Int)) == 0 && room) = false; rw [hz]; rfl
      have w2 : whenB f (256 - ((N - i : Nat) : Int)) room 2 = false := hz
      have w3 : whenB f (256 - ((N - i : Nat) : Int)) room 3 = false := by show decide ((256 - ((N - i : Nat) : Int)) < f.half) = false; rw [h2]; simp; omega
      have w4 : whenB f (256 - ((N - i : Nat) : Int)) room 4 = true := by show decide (256 - f.half ≤ (256 - ((N - i : Nat) : Int))) = true; rw [h2]; simp; omega
      have fa : firstAct f (256 - ((N - i : Nat) : Int)) room = 4 := by unfold firstAct; rw [w0, w1, w2, w3, w4]; rfl
      rw [fa]
      simp only [doF]
      have hne : (f.st.next != ((n0 + N : Nat) : Int) % 256) = false := by rw [h5]; simp
      rw [hne]
/-- A frame that has gone is under way no more. -/
theorem Inv.tail (h : Inv k n0 L tm p ups dws b) (o : Option Nat) (us : List (Option Nat)) (hu : ups = o :: us) (l : List Tc) (hl : l = us.map (frOf n0 p.units)) : Inv k n0 L tm { p with up := l } us dws b := by
  subst hu
  exact { h with hup := hl, u1 := fun i hi => h.u1 i (List.mem_cons_of_mem _ hi), u2 := fun i hi => h.u2 i (List.mem_cons_of_mem _ hi), u3 := (List.pairwise_cons.1 h.u3).2, .. }
theorem Inv.arrive (h : Inv k n0 L tm p ups dws b) (x : Tc) (l : List Tc) (hx : p.up = x :: l) (room : Bool) :
    (takeF p.f x room).2.2 = 0 ∧ (x.byp = true → x.data = bypD) ∧ ((takeF p.f x room).2.1 = true → x.byp = false → p.acc.length < p.units.length ∧ p.units.getD p.acc.length ⟨#[]⟩ = x.data) ∧
    ∃ o us, ups = o :: us ∧ Inv k n0 L tm { p with f := (takeF p.f x room).1, up := l, acc := if ((takeF p.f x room).2.1 && !x.byp) = true then p.acc ++ [x.data] else p.acc } us dws b := by
  have hup := h.hup
  rw [hx] at hup
  cases hu : ups with
  | nil => rw [hu] at hup; cases hup
  | cons o us =>
    rw [hu, List.map_cons] at hup
    injection hup with hxo hlo
    have ht := h.tail o us hu l hlo
    have hlen := h.len
    cases o with
    | none =>
      have e : takeF p.f x room = (⟨p.f.craft, p.f.half, ⟨p.f.st.chan, p.f.st.lockout, p.f.st.wait, p.f.st.retx, (p.f.st.bypd + 1) % 4, p.f.st.next⟩⟩, true, 0) := by
        rw [hxo]
        unfold takeF
        have e1 : ((frOf n0 p.units none).craft == p.f.craft) = true := by rw [h.fcraft]; rfl
        have e2 : ((frOf n0 p.units none).chan == p.f.st.chan) = true := by rw [h.fchan]; rfl
        have e3 : (frOf n0 p.units none).byp = true := rfl
        have e4 : (frOf n0 p.units none).good = true := rfl
        rw [e1, e2, e3, e4]
        rfl
      have hb : x.byp = true := by rw [hxo]; rfl
      rw [e, hb]
      refine ⟨rfl, fun _ => by rw [hxo]; rfl, (fun _ hc => by cases hc), _, us, rfl, ?_⟩
      exact { ht with fbyp := ⟨by show 0 ≤ (p.f.st.bypd + 1) % 4; omega, by show (p.f.st.bypd + 1) % 4 ≤ 3; omega⟩, .. }
    | some i =>
      have hi1 := h.u1 i (by rw [hu]; simp)
      have hi2 := h.u2 i (by rw [hu]; simp)
      have hsl := h.sl; have hbN := h.bN; have hNb := h.Nb
      have hg := frOf_good n0 p.units i (by omega) h.uz
      have e := take_data p.f n0 k p.acc.length i p.units room h.hk h.fcraft h.fhalf h.fchan h.flock h.fnext hg hi2 (by omega)
      have hb : x.byp = false := by rw [hxo]; rfl
      have hd : x.data = p.units.getD i ⟨#[]⟩ := by rw [hxo]; rfl
      rw [← hxo] at e
      by_cases c1 : i = p.acc.length
      · rw [if_pos c1] at e
        cases room with
        | true =>
          simp only [if_true] at e
          rw [e, hb]
          have hlt : p.acc.length < p.units.length := by omega
          refine ⟨rfl, (fun hc => by cases hc), fun _ _ => ⟨hlt, by rw [hd, c1]⟩, _, us, rfl, ?_⟩
          have hl1 : (p.acc ++ [x.data]).length = p.acc.length + 1 := by simp
          refine { ht with fnext := ?_, hacc := ?_, bN := ?_, Nb := ?_, u2 := ?_, d1 := ?_, .. }
          · show (p.f.st.next + 1) % 256 = ((n0 + (p.acc ++ [x.data]).length : Nat) : Int) % 256
            have := h.fnext
            rw [hl1]; omega
          · show p.acc ++ [x.data] = p.units.take (p.acc ++ [x.data]).length
            rw [hl1, List.take_succ_eq_append_getElem hlt, ← h.hacc, hd, c1, List.getD_eq_getElem?_getD, List.getElem?_eq_getElem hlt]
            rfl
          · show b ≤ (p.acc ++ [x.data]).length
            rw [hl1]; omega
          · show (p.acc ++ [x.data]).length ≤ b + p.s.sent.length
            rw [hl1]; omega
          · intro j hj
            show (p.acc ++ [x.data]).length ≤ j + k
            have h3 := h.u3
            rw [hu] at h3
            have := (List.pairwise_cons.1 h3).1 (some j) hj i j rfl rfl
            rw [hl1]; omega
          · intro y hy
            have := h.d1 y hy
            exact ⟨this.1, by show y.n ≤ (p.acc ++ [x.data]).length; rw [hl1]; omega, this.2.2⟩
        | false =>
          simp only [Bool.false_eq_true, if_false] at e
          rw [e, hb]
          exact ⟨rfl, (fun hc => by cases hc), (fun hc => by cases hc), _, us, rfl, { ht with .. }⟩
      · rw [if_neg c1] at e
        by_cases c2 : p.acc.length < i
        · rw [if_pos c2] at e
          rw [e, hb]
          exact ⟨rfl, (fun hc => by cases hc), (fun hc => by cases hc), _, us, rfl, { ht with .. }⟩
        · rw [if_neg c2] at e
          rw [e, hb]
          exact ⟨rfl, (fun hc => by cases hc), (fun hc => by cases hc), _, us, rfl, { ht with .. }⟩
/-- A control word is sent. -/
theorem Inv.word (h : Inv k n0 L tm p ups dws b) : Inv k n0 L tm { p with down := p.down ++ [wordN 0 p.f.st.bypd.toNat ((n0 + p.acc.length) % 256) false p.f.st.wait p.f.st.retx] } ups (dws ++ [⟨p.acc.length, p.f.st.bypd.toNat, p.f.st.wait, p.f.st.retx⟩]) b := by
  have hb := h.fbyp
  refine { h with hdown := ?_, d1 := ?_, d2 := ?_, .. }
  · show p.down ++ _ = _
    rw [List.map_append, h.hdown]; rfl
  · intro x hx
    rcases List.mem_append.1 hx with hx | hx
    · exact h.d1 x hx
    · simp at hx
      subst hx
      exact ⟨h.bN, Nat.le_refl _, by show p.f.st.bypd.toNat ≤ 3; omega⟩
  · refine List.pairwise_append.2 ⟨h.d2, by simp, ?_⟩
    intro x hx y hy
    simp at hy
    subst hy
    exact (h.d1 x hx).2.1
end
end
section
theorem on_off (l : List Ut) : (l.map Ut.on).map Ut.off = l.map Ut.off := by
  rw [List.map_map]
  exact List.map_congr_left fun _ _ => rfl
theorem wordF_is (s : Fs) (xn : Int) (xw xr : Bool) (kn : Nat) : ∃ tr cl ak se, wordF s xn xw xr kn = { s with base := xn, held := xw, tries := tr, clock := cl, asked := ak, sent := se, events := s.events ++ (s.sent.take kn).map ackEv } ∧
    (tr = 1 ∧ cl = s.timeout ∨ tr = s.tries ∧ cl = s.clock) ∧ se.map Ut.off = (s.sent.drop kn).map Ut.off ∧ se.length = s.sent.length - kn := by
  unfold wordF takenF ackF markF
  by_cases hk : 0 < kn
  · simp only [if_pos hk]
    split
    · exact ⟨_, _, _, _, rfl, .inl ⟨rfl, rfl⟩, on_off _, by simp⟩
    · exact ⟨_, _, _, _, rfl, .inl ⟨rfl, rfl⟩, rfl, by simp⟩
  · simp only [if_neg hk]
    split
    · exact ⟨_, _, _, _, rfl, .inr ⟨rfl, rfl⟩, on_off _, by simp⟩
    · exact ⟨_, _, _, _, rfl, .inr ⟨rfl, rfl⟩, rfl, by simp⟩
section
variable {k n0 L : Nat} {tm : Int} {p : Pr} {ups : List (Option Nat)} {dws : List Dw} {b : Nat}
theorem Inv.hear (h : Inv k n0 L tm p ups dws b) (x : Dw) (ds : List Dw) (hd : dws = x :: ds) :
    b ≤ x.n ∧ x.n ≤ p.acc.length ∧ x.n - b ≤ p.s.sent.length ∧ (((n0 + x.n) % 256 : Nat) - p.s.base) % 256 = ((x.n - b : Nat) : Int) ∧
    (wordF p.s ((n0 + x.n) % 256 : Nat) x.wait x.retx (x.n - b)).events = (p.s.sent.take (x.n - b)).map ackEv ∧
    Inv k n0 L tm { p with s := { wordF p.s ((n0 + x.n) % 256 : Nat) x.wait x.retx (x.n - b) with events := [] }, down := ds.map (dwN n0), acked := x.n } ups ds x.n := by
  subst hd
  have h1 := h.d1 x (by simp)
  have hsl := h.sl; have hNb := h.Nb; have hbase := h.base; have hk := h.hk; have hlen := h.len; have htr := h.tries; have hcl := h.clock; have hL := h.hL; have htm := h.htm; have hto := h.timeout
  have hkc : (((n0 + x.n) % 256 : Nat) - p.s.base) % 256 = ((x.n - b : Nat) : Int) := by omega
  obtain ⟨tr, cl, ak, se, e, e1, e2, e3⟩ := wordF_is p.s ((n0 + x.n) % 256 : Nat) x.wait x.retx (x.n - b)
  refine ⟨h1.1, h1.2.1, by omega, hkc, ?_, ?_⟩
  · rw [e]
    show p.s.events ++ _ = _
    rw [h.ev]; rfl
  · rw [e]
    have hr := h.rest
    refine { h with ev := rfl, clock := ?_, tries := ?_, base := ?_, rest := ?_, bu := ?_, sl := ?_, bN := h1.2.1, Nb := ?_, acked := rfl, u1 := ?_, hdown := rfl, d1 := ?_, d2 := (List.pairwise_cons.1 h.d2).2, .. }
    · show 1 ≤ cl ∧ cl ≤ tm
      rcases e1 with ⟨_, e1⟩ | ⟨_, e1⟩ <;> omega
    · show 1 ≤ tr ∧ tr ≤ (L : Int)
      rcases e1 with ⟨e1, _⟩ | ⟨e1, _⟩ <;> omega
    · show (((n0 + x.n) % 256 : Nat) : Int) = _
      omega
    · show (se ++ p.s.waiting).map Ut.off = _
      have hd2 := congrArg (List.drop (x.n - b)) hr
      rw [← List.map_drop, List.drop_append_of_le_length (by omega), List.drop_drop, List.map_append, ← e2, ← List.map_append] at hd2
      rw [hd2]
      congr 1
      omega
    · show x.n ≤ p.units.length
      omega
    · show se.length ≤ k
      omega
    · show p.acc.length ≤ x.n + se.length
      omega
    · intro i hi
      show i < x.n + se.length
      have := h.u1 i hi
      omega
    · intro y hy
      have h2 := h.d1 y (List.mem_cons_of_mem _ hy)
      exact ⟨(List.pairwise_cons.1 h.d2).1 y hy, h2.2⟩
theorem Inv.tick (h : Inv k n0 L tm p ups dws b) (by_ : Int) (hb : 0 ≤ by_) : ((tickF p.s by_).2 = [] ∧ Inv k n0 L tm { p with s := (tickF p.s by_).1 } ups dws b) ∨ (tickF p.s by_).2 = [⟨3, 0, 1⟩] := by
  have htr := h.tries; have hcl := h.clock; have hto := h.timeout; have htm := h.htm; have hli := h.limit
  unfold tickF
  split
  · exact .inl ⟨rfl, h⟩
  · split
    · rename_i hc
      exact .inl ⟨rfl, { h with clock := ⟨by show 1 ≤ p.s.clock - by_; omega, by show p.s.clock - by_ ≤ tm; omega⟩, .. }⟩
    · split
      · exact .inr rfl
      · rename_i hc hl
        refine .inl ⟨rfl, { h with due := ?_, clock := ?_, tries := ?_, rest := ?_, sl := ?_, Nb := ?_, u1 := ?_, .. }⟩
        · show (p.s.service == 1 && p.s.how != 2) = false
          rw [h.serv]; rfl
        · show 1 ≤ p.s.timeout ∧ p.s.timeout ≤ tm
          omega
        · show 1 ≤ p.s.tries + 1 ∧ p.s.tries + 1 ≤ (L : Int)
          omega
        · show ((p.s.sent.map Ut.on) ++ p.s.waiting).map Ut.off = _
          rw [List.map_append, on_off, ← List.map_append]; exact h.rest
        · show (p.s.sent.map Ut.on).length ≤ k
          rw [List.length_map]; exact h.sl
        · show p.acc.length ≤ b + (p.s.sent.map Ut.on).length
          rw [List.length_map]; exact h.Nb
        · intro i hi
          show i < b + (p.s.sent.map Ut.on).length
          rw [List.length_map]; exact h.u1 i hi
end
end
end Lk
end
end Go.Proofs.YtgopighmifpefaaGreatDoor
