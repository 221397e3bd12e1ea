/- What is proved here: the plain law of the pair where nothing is lost any more: what is due is sent, arrives, and is acknowledged. -/
import Derived.Test.YtbncejmohhejlaaPw14
set_option linter.unusedVariables false
set_option linter.unusedSimpArgs false
namespace Go.Proofs.Ytbncejmohhejlaa
open Go.RowKit
/-- The data frames from the index a on, m of them. -/
def idx (b a m : Nat) : List (Option Nat) := (List.range' a m).map fun i => some (b + i)
theorem idx_zero (b a : Nat) : idx b a 0 = [] := rfl
theorem idx_succ (b a m : Nat) : idx b a (m + 1) = some (b + a) :: idx b (a + 1) m := by simp [idx, List.range'_succ]
theorem idx_snoc (b a m : Nat) : idx b a (m + 1) = idx b a m ++ [some (b + (a + m))] := by
  unfold idx
  rw [List.range'_concat, List.map_append]; simp
theorem idx_len (b a m : Nat) : (idx b a m).length = m := by simp [idx]
/-- What is due is being sent: bypass frames, then the units from b on; j of them are sent. -/
structure Due (k n0 L : Nat) (tm : Int) (p : Pr) (ns : List (Option Nat)) (j b : Nat) : Prop where
  inv : Inv k n0 L tm p (ns ++ idx b 0 j) [] b
  nn : ∀ o ∈ ns, o = none
  jl : j ≤ p.s.sent.length
  mks : ∀ i, (h : i < p.s.sent.length) → (p.s.sent[i]).mark = decide (j ≤ i)
  bj : p.s.byp ≠ [] → j = 0
  held : p.s.held = false
  acc : p.acc.length = b
  wait : p.f.st.wait = false
  cnt : ns.length + p.s.byp.length ≤ 256
section
variable {k n0 L : Nat} {tm : Int} {p : Pr} {ns : List (Option Nat)} {j b : Nat}
theorem fr_none {units : List ByteArray} {o : Option Nat} (h : (frOf n0 units o).byp = true) : o = none := by
  cases o with
  | none => rfl
  | some i => cases h
theorem Due.step (h : Due k n0 L tm p ns j b) :
    ((nextF p.s) = (p.s, none) ∧ j = p.s.sent.length ∧ (p.s.waiting = [] ∨ p.s.sent.length = k)) ∨
    ∃ x ns' j', (nextF p.s).2 = some x ∧ Due k n0 L tm { { p with s := (nextF p.s).1 } with up := p.up ++ [x] } ns' j' b ∧ ns'.length + j' = ns.length + j + 1 := by
  obtain ⟨hN, hx⟩ := h.inv.next
  have hI := h.inv
  have hsl := hI.sl; have hk := hI.hk; have hbase := hI.base
  cases hb : p.s.byp with
  | cons d l =>
    right
    have hj := h.bj (by rw [hb]; simp)
    subst hj
    have e : nextF p.s = ({ p.s with byp := l }, some ⟨p.s.craft, p.s.chan, true, false, 0, d⟩) := by unfold nextF; rw [hb]
    rw [e] at hN hx ⊢
    obtain ⟨o, ho1, ho2⟩ := hx _ rfl
    have hon : o = none := fr_none (n0 := n0) (units := p.units) (by rw [← ho1])
    subst hon
    refine ⟨_, ns ++ [none], 0, rfl, ?_, by simp⟩
    have hJ := hN.push none (fun i hi => by cases hi)
    rw [← ho1] at hJ
    have hc := h.cnt
    rw [hb, List.length_cons] at hc
    refine ⟨?_, ?_, Nat.zero_le _, h.mks, fun _ => rfl, h.held, h.acc, h.wait, ?_⟩
    · rw [idx_zero, List.append_nil] at hJ
      rw [idx_zero, List.append_nil]
      exact hJ
    · intro o ho
      rcases List.mem_append.1 ho with ho | ho
      · exact h.nn o ho
      · simpa using ho
    · show (ns ++ [none]).length + l.length ≤ 256
      rw [List.length_append, List.length_singleton]; omega
  | nil =>
    have hd : ¬ (p.s.service ≠ 2 ∨ p.s.held = true) := by rw [h.held, hI.serv]; simp
    cases hf : p.s.sent.findIdx? (·.mark) with
    | some jj =>
      right
      obtain ⟨hlt, hm, hm0⟩ := List.findIdx?_eq_some_iff_getElem.1 hf
      have hjj : jj = j := by
        rw [h.mks jj hlt] at hm
        have h1 : j ≤ jj := by simpa using hm
        rcases Nat.lt_or_ge j jj with h2 | h2
        · exact absurd (h.mks j (by omega)) (by have := hm0 j h2; simp only [Bool.not_eq_true] at this; rw [this]; simp)
        · omega
      subst hjj
      have e : nextF p.s = ({ p.s with sent := p.s.sent.set jj ⟨(p.s.sent.getD jj ⟨0, ⟨#[]⟩, false⟩).id, (p.s.sent.getD jj ⟨0, ⟨#[]⟩, false⟩).data, false⟩ }, some ⟨p.s.craft, p.s.chan, false, false, (p.s.base + jj) % 256, (p.s.sent.getD jj ⟨0, ⟨#[]⟩, false⟩).data⟩) := by
        unfold nextF
        rw [hb]
        simp only [if_neg hd, hf]
        rw [hb]
      rw [e] at hN hx ⊢
      obtain ⟨o, ho1, ho2⟩ := hx _ rfl
      have hon : o = some (b + jj) := by
        cases o with
        | none => exact absurd (show false = true from congrArg Tc.byp ho1) (by decide)
        | some i =>
          have h2 := ho2 i rfl
          have h3 := congrArg Tc.seq ho1
          simp only [frOf, List.length_set] at h2 h3
          congr 1
          omega
      subst hon
      refine ⟨_, ns, jj + 1, rfl, ?_, by omega⟩
      have hJ := hN.push (some (b + jj)) ho2
      rw [← ho1] at hJ
      have hbp := h.cnt
      refine ⟨?_, h.nn, ?_, ?_, fun hc => absurd hb hc, h.held, h.acc, h.wait, hbp⟩
      · rw [idx_snoc, ← List.append_assoc, Nat.zero_add]
        exact hJ
      · show jj + 1 ≤ (p.s.sent.set jj _).length
        rw [List.length_set]; omega
      · intro i hi
        have hi2 : i < p.s.sent.length := by have : i < (p.s.sent.set jj _).length := hi; rwa [List.length_set] at this
        show ((p.s.sent.set jj _)[i]).mark = decide (jj + 1 ≤ i)
        rw [List.getElem_set]
        split
        · rename_i he
          subst he
          simp
        · rename_i he
          rw [h.mks i hi2]
          simp only [decide_eq_decide]
          omega
    | none =>
      have hm0 : ∀ u ∈ p.s.sent, u.mark = false := by
        intro u hu
        have := List.findIdx?_eq_none_iff.1 hf u hu
        simpa using this
      have hj : j = p.s.sent.length := by
        have := h.jl
        rcases Nat.lt_or_ge j p.s.sent.length with h2 | h2
        · exact absurd (h.mks j h2) (by rw [hm0 _ (List.getElem_mem h2)]; simp)
        · omega
      cases hw : p.s.waiting with
      | nil =>
        left
        refine ⟨?_, hj, .inl rfl⟩
        unfold nextF
        rw [hb]
        simp only [if_neg hd, hf, hw]
      | cons u l =>
        by_cases hfl : p.s.window ≤ (p.s.sent.length : Int)
        · left
          refine ⟨?_, hj, .inr ?_⟩
          · unfold nextF
            rw [hb]
            simp only [if_neg hd, hf, hw, if_pos hfl]
          · have := hI.win; omega
        · right
          have e : nextF p.s = (newSent p.s u l, some ⟨p.s.craft, p.s.chan, false, false, (p.s.base + p.s.sent.length) % 256, u.data⟩) := by
            unfold nextF
            rw [hb]
            simp only [if_neg hd, hf, hw, if_neg hfl]
          rw [e] at hN hx ⊢
          obtain ⟨o, ho1, ho2⟩ := hx _ rfl
          have hn : (newSent p.s u l).sent = p.s.sent ++ [u] := rfl
          have hns : (newSent p.s u l).byp = p.s.byp ∧ (newSent p.s u l).held = p.s.held := by
            unfold newSent
            split <;> exact ⟨rfl, rfl⟩
          have hon : o = some (b + p.s.sent.length) := by
            cases o with
            | none => exact absurd (show false = true from congrArg Tc.byp ho1) (by decide)
            | some i =>
              have h2 := ho2 i rfl
              have h3 := congrArg Tc.seq ho1
              simp only [frOf, hn, List.length_append, List.length_singleton] at h2 h3
              congr 1
              omega
          subst hon
          refine ⟨_, ns, j + 1, rfl, ?_, by omega⟩
          have hJ := hN.push (some (b + p.s.sent.length)) ho2
          rw [← ho1] at hJ
          refine ⟨?_, h.nn, ?_, ?_, fun hc => absurd (hns.1.trans hb) hc, hns.2.trans h.held, h.acc, h.wait, ?_⟩
          · rw [idx_snoc, ← List.append_assoc, Nat.zero_add, hj]
            rw [hj] at hJ
            exact hJ
          · show j + 1 ≤ (p.s.sent ++ [u]).length
            rw [List.length_append, List.length_singleton]; omega
          · intro i hi
            have hi2 : i < (p.s.sent ++ [u]).length := hi
            show ((p.s.sent ++ [u])[i]).mark = decide (j + 1 ≤ i)
            rw [List.length_append, List.length_singleton] at hi2
            rcases Nat.lt_or_ge i p.s.sent.length with h2 | h2
            · rw [List.getElem_append_left h2, hm0 _ (List.getElem_mem h2)]
              simp; omega
            · have hi3 : i = p.s.sent.length := by omega
              subst hi3
              rw [List.getElem_append_right (Nat.le_refl _)]
              simp only [Nat.sub_self, List.getElem_cons_zero]
              rw [hI.wm u (by rw [hw]; simp), hj]
              simp
          · show ns.length + (newSent p.s u l).byp.length ≤ 256
            rw [hns.1]; exact h.cnt
/-- What is under way arrives: i of the m units have arrived. -/
structure Arr (k n0 L : Nat) (tm : Int) (p : Pr) (ns : List (Option Nat)) (i m b : Nat) : Prop where
  inv : Inv k n0 L tm p (ns ++ idx b i (m - i)) [] b
  nn : ∀ o ∈ ns, o = none
  im : i ≤ m
  ms : m = p.s.sent.length
  nz : ns ≠ [] → i = 0
  acc : p.acc.length = b + i
  wait : p.f.st.wait = false
theorem Due.done (h : Due k n0 L tm p ns j b) (hj : j = p.s.sent.length) : Arr k n0 L tm p ns 0 j b :=
  ⟨by rw [Nat.sub_zero]; exact h.inv, h.nn, Nat.zero_le _, hj, fun _ => rfl, by rw [h.acc]; rfl, h.wait⟩
theorem Arr.step {i m : Nat} (h : Arr k n0 L tm p ns i m b) (x : Tc) (l : List Tc) (hx : p.up = x :: l) : ∃ ns' i', Arr k n0 L tm (arriveP p x l true) ns' i' m b ∧ ns'.length + (m - i') + 1 = ns.length + (m - i) := by
  have hI := h.inv
  have hhu := hI.hup
  obtain ⟨h1, h2, h3, o, us, hu, hJ⟩ := hI.arrive x l hx true
  have hxo : x = frOf n0 p.units o := by
    rw [hx, hu, List.map_cons] at hhu
    injection hhu
  have him := h.im; have hms := h.ms; have hacc := h.acc
  cases hns : ns with
  | cons o' ns' =>
    rw [hns, List.cons_append] at hu
    injection hu with e1 e2
    have ho : o = none := by rw [← e1]; exact h.nn o' (by rw [hns]; simp)
    subst ho
    have hi0 := h.nz (by rw [hns]; simp)
    subst hi0
    have e : takeF p.f x true = (⟨p.f.craft, p.f.half, ⟨p.f.st.chan, p.f.st.lockout, p.f.st.wait, p.f.st.retx, (p.f.st.bypd + 1) % 4, p.f.st.next⟩⟩, true, 0) := by
      rw [hxo]
      unfold takeF
      have e1 : ((frOf n0 p.units none).craft == p.f.craft) = true := by rw [hI.fcraft]; rfl
      have e2 : ((frOf n0 p.units none).chan == p.f.st.chan) = true := by rw [hI.fchan]; rfl
      have e3 : (frOf n0 p.units none).byp = true := rfl
      have e4 : (frOf n0 p.units none).good = true := rfl
      rw [e1, e2, e3, e4]
      rfl
    have hb : x.byp = true := by rw [hxo]; rfl
    refine ⟨ns', 0, ⟨?_, fun o ho => h.nn o (by rw [hns]; exact List.mem_cons_of_mem _ ho), Nat.zero_le _, hms, fun _ => rfl, ?_, ?_⟩, by rw [List.length_cons]; omega⟩
    · rw [e2]; exact hJ
    · show (if ((takeF p.f x true).2.1 && !x.byp) = true then p.acc ++ [x.data] else p.acc).length = _
      rw [hb]; simp; exact h.acc
    · show (takeF p.f x true).1.st.wait = false
      rw [e]; exact h.wait
  | nil =>
    rw [hns, List.nil_append] at hu
    rcases Nat.lt_or_ge i m with hlt | hge
    · have hmi : m - i = (m - (i + 1)) + 1 := by omega
      rw [hmi, idx_succ] at hu
      injection hu with e1 e2
      subst e1
      have hsl := hI.sl; have hlen := hI.len; have hk := hI.hk
      have hg := frOf_good n0 p.units (b + i) (by omega) hI.uz
      have e := take_data p.f n0 k p.acc.length (b + i) p.units true hI.hk hI.fcraft hI.fhalf hI.fchan hI.flock hI.fnext hg (by omega) (by omega)
      rw [if_pos (by omega), ← hxo] at e
      simp only [if_true] at e
      have hb : x.byp = false := by rw [hxo]; rfl
      refine ⟨[], i + 1, ⟨?_, (fun o ho => by cases ho), by omega, hms, fun hc => absurd rfl hc, ?_, ?_⟩, by simp; omega⟩
      · rw [List.nil_append, e2]; exact hJ
      · show (if ((takeF p.f x true).2.1 && !x.byp) = true then p.acc ++ [x.data] else p.acc).length = _
        rw [e, hb]
        simp
        omega
      · show (takeF p.f x true).1.st.wait = false
        rw [e]; exact h.wait
    · rw [show m - i = 0 by omega, idx_zero] at hu
      cases hu
theorem Arr.done {i m : Nat} (h : Arr k n0 L tm p ns i m b) (hx : p.up = []) : Inv k n0 L tm p [] [] b ∧ p.acc.length = b + p.s.sent.length ∧ p.f.st.wait = false := by
  have hI := h.inv
  have hhu := hI.hup
  rw [hx] at hhu
  have hl := congrArg List.length hhu
  rw [List.length_map, List.length_append, idx_len, List.length_nil] at hl
  have hns : ns = [] := List.eq_nil_of_length_eq_zero (by omega)
  have hmi : m - i = 0 := by omega
  rw [hns, hmi, idx_zero, List.append_nil] at hI
  have him := h.im; have hms := h.ms; have hacc := h.acc
  exact ⟨hI, by omega, h.wait⟩
/-- The control word that is sent and heard. -/
def wordD (p : Pr) : Dw := ⟨p.acc.length, p.f.st.bypd.toNat, p.f.st.wait, p.f.st.retx⟩
def toldP (n0 : Nat) (p : Pr) : Pr := { p with down := p.down ++ [wordP n0 p] }
def heardP (n0 b : Nat) (p : Pr) : Pr := { toldP n0 p with s := hearS n0 b (wordD p) p.s, down := [], acked := p.acc.length }
theorem Inv.told {ups : List (Option Nat)} (h : Inv k n0 L tm p ups [] b) : Inv k n0 L tm (toldP n0 p) ups [wordD p] b := h.word
theorem Inv.heard {ups : List (Option Nat)} (h : Inv k n0 L tm p ups [] b) : Inv k n0 L tm (heardP n0 b p) ups [] p.acc.length ∧ (heardP n0 b p).s.held = p.f.st.wait ∧
    (heardP n0 b p).s.sent.length = p.s.sent.length - (p.acc.length - b) ∧ (heardP n0 b p).s.waiting = p.s.waiting := by
  obtain ⟨-, -, -, -, -, hJ⟩ := h.told.hear (wordD p) [] rfl
  refine ⟨hJ, ?_⟩
  obtain ⟨tr, cl, ak, se, e, -, -, e3⟩ := wordF_is p.s ((n0 + (wordD p).n) % 256 : Nat) (wordD p).wait (wordD p).retx ((wordD p).n - b)
  show (hearS n0 b (wordD p) p.s).held = _ ∧ (hearS n0 b (wordD p) p.s).sent.length = _ ∧ (hearS n0 b (wordD p) p.s).waiting = _
  unfold hearS
  rw [e]
  exact ⟨rfl, e3, rfl⟩
/-- The timeout. -/
theorem Inv.expire (h : Inv k n0 L 20 p [] [] b) (hb : p.acc.length = b) (hh : p.s.held = false) (hw : p.f.st.wait = false) :
    ((tickF p.s 20).2 = [] ∧ Due k n0 L 20 { p with s := (tickF p.s 20).1 } [] 0 b ∧ (tickF p.s 20).1.sent.length = p.s.sent.length ∧ (tickF p.s 20).1.waiting = p.s.waiting) ∨ ((tickF p.s 20).2 = [⟨3, 0, 1⟩]) := by
  have hcl := h.clock
  rcases h.tick 20 (by omega) with ⟨h1, h2⟩ | h1
  · left
    have hmk : (∀ u ∈ (tickF p.s 20).1.sent, u.mark = true) ∧ (tickF p.s 20).1.held = p.s.held ∧ (tickF p.s 20).1.sent.length = p.s.sent.length ∧ (tickF p.s 20).1.waiting = p.s.waiting ∧ (tickF p.s 20).1.byp = p.s.byp := by
      revert h1
      unfold tickF
      split
      · rename_i hs
        intro _
        have hse : p.s.sent = [] := by
          rcases hs with e | e
          · rw [h.serv] at e; cases e
          · exact e.2
        refine ⟨fun u hu => ?_, rfl, rfl, rfl, rfl⟩
        have hu2 : u ∈ p.s.sent := hu
        rw [hse] at hu2
        cases hu2
      · split
        · omega
        · split
          · intro hc; cases hc
          · intro _
            refine ⟨fun u hu => ?_, rfl, ?_, rfl, rfl⟩
            · have hu2 : u ∈ p.s.sent.map Ut.on := hu
              obtain ⟨v, -, rfl⟩ := List.mem_map.1 hu2
              rfl
            · show (p.s.sent.map Ut.on).length = _
              rw [List.length_map]
    exact ⟨h1, ⟨h2, (fun o ho => by cases ho), Nat.zero_le _, (fun i hi => by rw [hmk.1 _ (List.getElem_mem hi)]; simp), fun _ => rfl, hmk.2.1.trans hh, hb, hw, by have := h.bl; show 0 + (tickF p.s 20).1.byp.length ≤ 256; rw [hmk.2.2.2.2]; omega⟩, hmk.2.2.1, hmk.2.2.2.1⟩
  · exact .inr h1
end
end Go.Proofs.Ytbncejmohhejlaa
