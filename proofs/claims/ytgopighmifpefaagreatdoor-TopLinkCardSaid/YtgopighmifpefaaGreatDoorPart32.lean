/- What is proved here: a part of the proof of TopLink (texts Lx Ja Jd). No condition. -/
import Derived.Test.YtgopighmifpefaaGreatDoorPart25
import Derived.Test.YtgopighmifpefaaGreatDoorPart28
import Derived.Test.YtgopighmifpefaaGreatDoorPart29
import Derived.Test.YtgopighmifpefaaGreatDoorPart30
import Derived.Test.YtgopighmifpefaaGreatDoorPart31
set_option linter.unusedVariables false
set_option linter.unusedSimpArgs false
namespace Go.Proofs.YtgopighmifpefaaGreatDoor
section
open Go.RowKit
theorem frontT_enc (x : Tc) (after : ByteArray) (hg : x.good = true) : frontT (⟨x.enc.toArray⟩ ++ after) = some x := by
  obtain ⟨e1, e2, e3, a1, a2⟩ := enc_nat2 x hg
  have hsz : (⟨x.enc.toArray⟩ : ByteArray).size = x.data.size + 7 := by show x.enc.toArray.size = _; simp [e3]
  obtain ⟨c, ch, s, h1, h2, h3, h4, h5, h6, h7⟩ := x.good_nat hg
  have hl : ((⟨x.enc.toArray⟩ : ByteArray) ++ after).data.toList = x.enc ++ after.data.toList := by simp
  have hn2 : nat2 (⟨x.enc.toArray⟩ ++ after) 2 = x.sizeN := by
    rw [← e2]
    unfold nat2
    rw [hl]
    simp only [List.getD_eq_getElem?_getD]
    rw [List.getElem?_append_left (by omega), List.getElem?_append_left (by omega)]
  have hN : frontN (⟨x.enc.toArray⟩ ++ after) = x.data.size + 7 := by
    unfold frontN
    rw [hn2]
    have : x.sizeN = ch * 1024 + (x.data.size + 6) := by rw [h7]; unfold Tc.sizeN; simp only [Int.toNat_natCast]
    omega
  have hts : ((⟨x.enc.toArray⟩ : ByteArray) ++ after).size = x.data.size + 7 + after.size := by rw [ByteArray.size_append, hsz]
  have hex : ((⟨x.enc.toArray⟩ : ByteArray) ++ after).extract 0 (x.data.size + 7) = ⟨x.enc.toArray⟩ := by
    apply ByteArray.ext
    apply Array.toList_inj.1
    rw [show (((⟨x.enc.toArray⟩ : ByteArray) ++ after).extract 0 (x.data.size + 7)).data.toList = (x.enc ++ after.data.toList).take (x.data.size + 7) by
      simp [ByteArray.data_extract, Array.toList_extract, List.extract_eq_take_drop, List.take_append]]
    exact List.take_left' e3
  unfold frontT
  rw [hN, if_neg (by rw [hts]; omega), hex, getP_enc x hg]
  simp
theorem frontT_pad (x : Tc) (hg : x.good = true) : frontT ⟨(padL x.enc).toArray⟩ = some x := by
  have e : (⟨(padL x.enc).toArray⟩ : ByteArray) = ⟨x.enc.toArray⟩ ++ ⟨(List.replicate (padN x.enc.length) 85).toArray⟩ := by
    apply ByteArray.ext
    apply Array.toList_inj.1
    simp [padL]
  rw [e]
  exact frontT_enc x _ hg
theorem takeF_wait (f : Fm) (x : Tc) (h : f.st.wait = false) : (takeF f x true).1.st.wait = false := by
  have hd : ∀ n, n ≠ 2 → (doF f n).st.wait = false := by
    intro n hn
    unfold doF
    split <;> first | exact h | exact absurd rfl hn
  unfold takeF
  split
  · split
    · unfold bypassF
      split
      · split
        · simp only
          split
          · rfl
          · split
            · exact h
            · rfl
        · exact h
      · exact h
    · refine hd _ ?_
      generalize (x.seq - f.st.next) % 256 = a
      have e : whenB f a true 1 = whenB f a true 2 := by show (a == 0 && true) = (a == 0); simp
      unfold firstAct
      rw [e]
      split
      · decide
      · split
        · decide
        · split
          · decide
          · split <;> decide
  · exact h
theorem takeS_wait (l : Ls) (y : Tc) (h : l.f.st.wait = false) : (takeS l y).f.st.wait = false := by
  unfold takeS
  split <;> exact takeF_wait l.f y h
theorem arrS_wait (x : Tc) : ∀ (ds : List ByteArray) (l : Ls), l.f.st.wait = false → (arrS x l ds).f.st.wait = false
  | [], l, h => h
  | D :: ds, l, h => by
    unfold arrS
    split
    · exact arrS_wait x ds l h
    · split
      · exact arrS_wait x ds _ (takeS_wait l _ h)
      · exact h
section
variable {k n0 : Nat} {l : Ls} {pks : List (Nat × Nat)} {ups : List Nat} {dws : List Lk.Dw} {b N : Nat} {bo : Option Nat}
/-- A clean unit comes, and is the one that the board waits for. -/
theorem LI.arriveClean {us : List Nat} (h : LI k n0 l pks (N :: us) dws b N bo) (hc : Clean l.ps) :
    LI k n0 (arrS (fr0 n0 (partsP pks) N) (popS l (feedP l.ps (putL (fr0 n0 (partsP pks) N).enc))) (feedP l.ps (putL (fr0 n0 (partsP pks) N).enc)).found) pks us dws b (N + 1) (some N) ∧
    Clean (arrS (fr0 n0 (partsP pks) N) (popS l (feedP l.ps (putL (fr0 n0 (partsP pks) N).enc))) (feedP l.ps (putL (fr0 n0 (partsP pks) N).enc)).found).ps ∧
    (arrS (fr0 n0 (partsP pks) N) (popS l (feedP l.ps (putL (fr0 n0 (partsP pks) N).enc))) (feedP l.ps (putL (fr0 n0 (partsP pks) N).enc)).found).s = l.s := by
  have hi : N < (partsP pks).length := h.lt N (by simp)
  obtain ⟨f1, f2, f3, f4⟩ := fr0_link h.pk n0 N hi
  obtain ⟨-, -, e3, -, -⟩ := enc_nat2 _ f2
  have hdz : (fr0 n0 (partsP pks) N).data = (partsP pks).getD N ⟨#[]⟩ := rfl
  have hfine := (feedP_fine l.ps h.pf (putL (fr0 n0 (partsP pks) N).enc)).1
  obtain ⟨c1, c2⟩ := feed_clean l.ps (fr0 n0 (partsP pks) N).enc hc (by rw [e3]; omega) (by rw [e3, hdz]; omega)
  rw [h.pd, List.nil_append] at c2
  obtain ⟨p1, N', p2⟩ := h.took (feedP l.ps (putL (fr0 n0 (partsP pks) N).enc)) hfine (fr0 n0 (partsP pks) N) (.inl rfl)
  have hfr := frontT_pad _ f2
  obtain ⟨s1, s2, s3, s4, s5, s6, s7, s8, s9⟩ := takeS_same (popS l (feedP l.ps (putL (fr0 n0 (partsP pks) N).enc))) (fr0 n0 (partsP pks) N)
  have e : arrS (fr0 n0 (partsP pks) N) (popS l (feedP l.ps (putL (fr0 n0 (partsP pks) N).enc))) (feedP l.ps (putL (fr0 n0 (partsP pks) N).enc)).found = { takeS (popS l (feedP l.ps (putL (fr0 n0 (partsP pks) N).enc))) (fr0 n0 (partsP pks) N) with before := fr0 n0 (partsP pks) N } := by
    rw [c2]
    unfold arrS
    rw [hfr]
    simp only [true_or, if_true]
    unfold arrS
    rfl
  rw [e]
  have hI := h.inv
  have hNN : N' = N + 1 := by
    have g1 := p2.inv.fnext
    have g2 := hI.fnext
    have g3 := p2.acc
    have g4 := h.acc
    have g5 := p2.bN; have g6 := h.bN
    have g7 := p2.inv.Nb; have g8 := hI.Nb; have g9 := hI.sl
    have g10 := p2.inv.sl
    have g11 := hI.hk
    have hz := hI.uz
    simp only [prOf] at g1 g2 g7 g8 g9 g10 hz
    rw [g3] at g1 g7
    rw [g4] at g2 g8
    have hd := Lk.take_data l.f n0 k N N (partsP pks) true g11 hI.fcraft hI.fhalf hI.fchan hI.flock g2 f2 (by omega) (by omega)
    rw [if_pos rfl, if_pos rfl] at hd
    have g12 : (takeS (popS l (feedP l.ps (putL (fr0 n0 (partsP pks) N).enc))) (fr0 n0 (partsP pks) N)).f = (takeF l.f (fr0 n0 (partsP pks) N) true).1 := by
      unfold takeS popS
      split <;> rfl
    rw [g12, hd] at g1
    simp only at g1
    rw [s1] at g7 g10
    have g13 : (popS l (feedP l.ps (putL (fr0 n0 (partsP pks) N).enc))).s = l.s := rfl
    rw [g13] at g7 g10
    omega
  rw [hNN] at p2
  refine ⟨p2, ?_, s1⟩
  show Clean (takeS _ _).ps
  rw [s6]
  exact ⟨c1.1, c1.2.1, c1.2.2.1, c1.2.2.2⟩
/-- All that is under way is lost. -/
theorem LI.drop (h : LI k n0 l pks ups dws b N bo) (ps : Ps) (hp : ps.fine) (hf : ps.found = []) : LI k n0 { l with frames := [], units := [], words := [], ps := ps } pks [] [] b N bo := by
  have hI := h.inv
  refine { h with inv := ?_, frames := rfl, units := rfl, pf := hp, pd := hf, .. }
  have hmem : ∀ o ∈ (bo.toList ++ []).map some, o ∈ (bo.toList ++ ups).map some := by
    intro o ho
    rw [List.append_nil] at ho
    rw [List.map_append]
    exact List.mem_append_left _ ho
  refine { hI with hup := ?_, u1 := fun i hi => hI.u1 i (hmem _ hi), u2 := fun i hi => hI.u2 i (hmem _ hi), u3 := ?_, hdown := rfl, d1 := (fun x hx => by cases hx), d2 := List.Pairwise.nil, .. }
  · show (bo.toList ++ []).map _ = ((bo.toList ++ []).map some).map _
    rw [List.map_map]; rfl
  · refine hI.u3.sublist ?_
    rw [List.append_nil, List.map_append]
    exact List.sublist_append_left _ _
/-- The state behind a control word that is sent and heard. -/
def toldS (n0 b N : Nat) (l : Ls) : Ls := { l with s := { wordF l.s ((n0 + N) % 256 : Nat) l.f.st.wait l.f.st.retx (N - b) with events := [] }, words := [] }
theorem LI.words_nil (h : LI k n0 l pks ups [] b N bo) : l.words = [] := h.inv.hdown
theorem LI.told (h : LI k n0 l pks ups [] b N bo) :
    LI k n0 (toldS n0 b N l) pks ups [] N N bo ∧ (toldS n0 b N l).s.held = l.f.st.wait ∧ (toldS n0 b N l).s.sent.length = l.s.sent.length - (N - b) ∧ (toldS n0 b N l).s.waiting = l.s.waiting := by
  obtain ⟨-, -, -, -, -, -, -, hJ⟩ := h.word.hear
  refine ⟨hJ, ?_⟩
  obtain ⟨tr, cl, ak, se, e, -, -, e3⟩ := Lk.wordF_is l.s ((n0 + N) % 256 : Nat) l.f.st.wait l.f.st.retx (N - b)
  unfold toldS
  rw [e]
  exact ⟨rfl, e3, rfl⟩
/-- What is due is being sent, and arrives at once; j of the units from b on have arrived. -/
structure Du (k n0 : Nat) (l : Ls) (pks : List (Nat × Nat)) (b j : Nat) (bo : Option Nat) : Prop where
  li : LI k n0 l pks [] [] b (b + j) bo
  jl : j ≤ l.s.sent.length
  mks : ∀ i, (h : i < l.s.sent.length) → (l.s.sent[i]).mark = decide (j ≤ i)
  held : l.s.held = false
  wait : l.f.st.wait = false
  clean : Clean l.ps
theorem LI.expire (h : LI k n0 l pks [] [] N N bo) (hh : l.s.held = false) (hw : l.f.st.wait = false) (hc : Clean l.ps) :
    ((tickF l.s 50).2 = [] ∧ Du k n0 { l with s := (tickF l.s 50).1 } pks N 0 bo ∧ (tickF l.s 50).1.sent.length = l.s.sent.length ∧ (tickF l.s 50).1.waiting = l.s.waiting) ∨ (tickF l.s 50).2 = [⟨3, 0, 1⟩] := by
  have hcl := h.inv.clock
  have hsv := h.inv.serv
  simp only [prOf] at hcl hsv
  rcases h.tick 50 (by omega) with ⟨h1, h2⟩ | h1
  · left
    have hmk : (∀ u ∈ (tickF l.s 50).1.sent, u.mark = true) ∧ (tickF l.s 50).1.held = l.s.held ∧ (tickF l.s 50).1.sent.length = l.s.sent.length ∧ (tickF l.s 50).1.waiting = l.s.waiting := by
      revert h1
      unfold tickF
      split
      · rename_i hs
        intro _
        have hse : l.s.sent = [] := by
          rcases hs with e | e
          · rw [hsv] at e; cases e
          · exact e.2
        refine ⟨fun u hu => ?_, rfl, rfl, rfl⟩
        have hu2 : u ∈ l.s.sent := hu
        rw [hse] at hu2
        cases hu2
      · split
        · omega
        · split
          · intro hc; cases hc
          · intro _
            refine ⟨fun u hu => ?_, rfl, ?_, rfl⟩
            · have hu2 : u ∈ l.s.sent.map Ut.on := hu
              obtain ⟨v, -, rfl⟩ := List.mem_map.1 hu2
              rfl
            · show (l.s.sent.map Ut.on).length = _
              rw [List.length_map]
    exact ⟨h1, ⟨h2, Nat.zero_le _, (fun i hi => by rw [hmk.1 _ (List.getElem_mem hi)]; simp), hmk.2.1.trans hh, hw, hc⟩, hmk.2.2.1, hmk.2.2.2⟩
  · exact .inr h1
/-- A frame is sent and arrives. -/
def runS (l : Ls) (x : Tc) : Ls := { l with s := (nextF l.s).1, frames := [x], units := [unitOf x] }
theorem Du.step {j : Nat} (h : Du k n0 l pks b j bo) :
    (nextF l.s = (l.s, none) ∧ j = l.s.sent.length ∧ (l.s.waiting = [] ∨ l.s.sent.length = k)) ∨
    ∃ x, (nextF l.s).2 = some x ∧ x = fr0 n0 (partsP pks) (b + j) ∧ LI k n0 (runS l x) pks [b + j] [] b (b + j) bo ∧
      ∃ bo', Du k n0 (arrS x (popS (runS l x) (feedP (runS l x).ps (putL x.enc))) (feedP (runS l x).ps (putL x.enc)).found) pks b (j + 1) bo' := by
  have hI := h.li.inv
  have hsl := hI.sl; have hk := hI.hk; have hbase := hI.base; have hwin := hI.win; have hserv := hI.serv; have hwm := hI.wm
  have hb := h.li.byp
  simp only [prOf] at hsl hk hbase hwin hserv hwm
  obtain ⟨hN, hx⟩ := h.li.next
  have hd : ¬ (l.s.service ≠ 2 ∨ l.s.held = true) := by rw [h.held, hserv]; simp
  have key : ∀ x, (nextF l.s).2 = some x → x.seq = (l.s.base + j) % 256 → j < (nextF l.s).1.sent.length → (∀ i, (h : i < (nextF l.s).1.sent.length) → ((nextF l.s).1.sent[i]).mark = decide (j + 1 ≤ i)) → (nextF l.s).1.held = false →
      ∃ x, (nextF l.s).2 = some x ∧ x = fr0 n0 (partsP pks) (b + j) ∧ LI k n0 (runS l x) pks [b + j] [] b (b + j) bo ∧
      ∃ bo', Du k n0 (arrS x (popS (runS l x) (feedP (runS l x).ps (putL x.enc))) (feedP (runS l x).ps (putL x.enc)).found) pks b (j + 1) bo' := by
    intro x h1 h2 h3 h4 h5
    obtain ⟨i, ho, r0, r1, r2⟩ := hx x h1
    have hsl2 := hN.inv.sl
    simp only [prOf] at hsl2
    have hij : i = b + j := by
      have h6 := congrArg Tc.seq ho
      rw [h2] at h6
      simp only [fr0, Lk.frOf] at h6
      omega
    subst hij
    have hP := hN.push (b + j) r1 r2
    have hfr : l.frames = [] := h.li.frames
    have hun : l.units = [] := by rw [h.li.units, hfr]; rfl
    have e1 : ({ { l with s := (nextF l.s).1 } with frames := ({ l with s := (nextF l.s).1 } : Ls).frames ++ [fr0 n0 (partsP pks) (b + j)], units := ({ l with s := (nextF l.s).1 } : Ls).units ++ [unitOf (fr0 n0 (partsP pks) (b + j))] } : Ls) = runS l x := by
      rw [ho]
      unfold runS
      simp only [hfr, hun, List.nil_append]
    rw [e1, List.nil_append] at hP
    obtain ⟨a1, a2, a3⟩ := hP.arriveClean h.clean
    rw [← ho] at a1 a2 a3
    refine ⟨x, h1, ho, hP, _, a1, ?_, ?_, ?_, ?_, a2⟩
    · rw [a3]; exact h3
    · intro i hi
      have hi2 : i < (runS l x).s.sent.length := by rw [← a3]; exact hi
      have e2 : (arrS x (popS (runS l x) (feedP (runS l x).ps (putL x.enc))) (feedP (runS l x).ps (putL x.enc)).found).s.sent[i] = (runS l x).s.sent[i] := by simp only [a3]
      rw [e2]
      exact h4 i hi2
    · rw [a3]; exact h5
    · exact arrS_wait x _ _ h.wait
  cases hf : l.s.sent.findIdx? (·.mark) with
  | some jj =>
    right
    obtain ⟨hlt, hm, hm0⟩ := List.findIdx?_eq_some_iff_getElem.1 hf
    have hjj : jj = j := by
      rw [h.mks jj hlt] at hm
      have h1 : j ≤ jj := by simpa using hm
      rcases Nat.lt_or_ge j jj with h2 | h2
      · exact absurd (h.mks j (by omega)) (by have := hm0 j h2; simp only [Bool.not_eq_true] at this; rw [this]; simp)
      · omega
    subst hjj
    have e : nextF l.s = ({ l.s with sent := l.s.sent.set jj ⟨(l.s.sent.getD jj ⟨0, ⟨#[]⟩, false⟩).id, (l.s.sent.getD jj ⟨0, ⟨#[]⟩, false⟩).data, false⟩ }, some ⟨l.s.craft, l.s.chan, false, false, (l.s.base + jj) % 256, (l.s.sent.getD jj ⟨0, ⟨#[]⟩, false⟩).data⟩) := by
      unfold nextF
      rw [hb]
      simp only [if_neg hd, hf]
      rw [hb]
    have e2 : (nextF l.s).1.sent = l.s.sent.set jj ⟨(l.s.sent.getD jj ⟨0, ⟨#[]⟩, false⟩).id, (l.s.sent.getD jj ⟨0, ⟨#[]⟩, false⟩).data, false⟩ := by rw [e]
    refine key _ (by rw [e]) rfl (by rw [e2, List.length_set]; exact hlt) ?_ (by rw [e]; exact h.held)
    intro i hi
    simp only [e2] at hi ⊢
    have hi2 : i < l.s.sent.length := by rwa [List.length_set] at hi
    rw [List.getElem_set]
    split
    · rename_i he
      subst he
      simp
    · rename_i he
      rw [h.mks i hi2]
      simp only [decide_eq_decide]
      omega
  | none =>
    have hm0 : ∀ u ∈ l.s.sent, u.mark = false := by
      intro u hu
      have := List.findIdx?_eq_none_iff.1 hf u hu
      simpa using this
    have hj : j = l.s.sent.length := by
      have := h.jl
      rcases Nat.lt_or_ge j l.s.sent.length with h2 | h2
      · exact absurd (h.mks j h2) (by rw [hm0 _ (List.getElem_mem h2)]; simp)
      · omega
    cases hw : l.s.waiting with
    | nil =>
      left
      refine ⟨?_, hj, .inl rfl⟩
      unfold nextF
      rw [hb]
      simp only [if_neg hd, hf, hw]
    | cons u q =>
      by_cases hfl : l.s.window ≤ (l.s.sent.length : Int)
      · left
        refine ⟨?_, hj, .inr ?_⟩
        · unfold nextF
          rw [hb]
          simp only [if_neg hd, hf, hw, if_pos hfl]
        · omega
      · right
        have e : nextF l.s = (newSent l.s u q, some ⟨l.s.craft, l.s.chan, false, false, (l.s.base + l.s.sent.length) % 256, u.data⟩) := by
          unfold nextF
          rw [hb]
          simp only [if_neg hd, hf, hw, if_neg hfl]
        have hn : (newSent l.s u q).sent = l.s.sent ++ [u] := rfl
        have e2 : (nextF l.s).1.sent = l.s.sent ++ [u] := by rw [e]; exact hn
        have hns : (newSent l.s u q).held = l.s.held := by
          unfold newSent
          split <;> rfl
        refine key _ (by rw [e]) (by rw [hj]) (by rw [e2, List.length_append, List.length_singleton]; omega) ?_ (by rw [e]; exact hns.trans h.held)
        intro i hi
        simp only [e2] at hi ⊢
        have hi3 := hi
        rw [List.length_append, List.length_singleton] at hi3
        rcases Nat.lt_or_ge i l.s.sent.length with h2 | h2
        · rw [List.getElem_append_left h2, hm0 _ (List.getElem_mem h2)]
          simp; omega
        · have hi4 : i = l.s.sent.length := by omega
          subst hi4
          rw [List.getElem_append_right (Nat.le_refl _)]
          simp only [Nat.sub_self, List.getElem_cons_zero]
          rw [hwm u (by rw [hw]; simp), hj]
          simp
theorem LI.len (h : LI k n0 l pks ups dws b N bo) : b + l.s.sent.length + l.s.waiting.length = (partsP pks).length := h.inv.len
/-- How much is still to be done ahead of round r. -/
def RestL (r : Nat) (l : Ls) : Prop := r = 0 ∨ (l.s.sent.length = 0 ∧ l.s.waiting.length + r ≤ 257)
/-- All has come. -/
theorem LI.all (h : LI k n0 l pks ups dws b N bo) (h1 : l.s.sent.length = 0) (h2 : l.s.waiting.length = 0) : l.came = l.sent.length := by
  have h3 := h.len
  have h4 := h.bN
  have h5 := h.hN
  have := h.asm.full h.pk (show N = (partsFrom 0 pks).length by show N = (partsP pks).length; omega)
  rw [h.sent, sentFrom_len]
  exact this
end
end
section
open Go.RowKit
/-- What holds of the link behind c steps while nothing odd has come. -/
def GoodL (k n0 c : Nat) (l : Ls) : Prop := ∃ pks ups dws b N bo, LI k n0 l pks ups dws b N bo ∧ pks.length ≤ c ∧ ups.length ≤ 2 * c ∧ dws.length ≤ c ∧ l.f.st.wait = false
def Aft (k n0 c : Nat) (r : Bool) (l : Ls) : Prop := l.bad = false ∧ (r = false ∨ l.odd = true ∨ GoodL k n0 c l)
theorem segN_26 (n m : Nat) (h1 : n ≤ 500) (h2 : 20 ≤ m) : segN (n + 6) m ≤ 26 := by
  have h := (segN_spec (n + 6) m (by omega) (by omega)).1
  rcases Nat.lt_or_ge (segN (n + 6) m) 27 with h3 | h3
  · omega
  · have : 26 * m ≤ (segN (n + 6) m - 1) * m := Nat.mul_le_mul_right _ (by omega)
    omega
theorem parts_le (pks : List (Nat × Nat)) (h : ∀ p ∈ pks, 1 ≤ p.1 ∧ p.1 ≤ 500 ∧ 20 ≤ p.2 ∧ p.2 ≤ 199) : ∀ c, (partsFrom c pks).length ≤ 26 * pks.length := by
  induction pks with
  | nil => intro c; simp [partsFrom]
  | cons p l ih =>
    intro c
    obtain ⟨n, m⟩ := p
    have h1 := h (n, m) (by simp)
    have h2 := ih (fun q hq => h q (List.mem_cons_of_mem _ hq)) (c + 1)
    have h3 := segN_26 n m h1.2.1 h1.2.2.1
    show (segsP c n m ++ partsFrom (c + 1) l).length ≤ _
    rw [List.length_append, segsP_len, List.length_cons]
    omega
section
variable {k n0 c : Nat} {l : Ls} {pks : List (Nat × Nat)} {ups : List Nat} {dws : List Lk.Dw} {b N : Nat} {bo : Option Nat}
theorem LI.sizes (h : LI k n0 l pks ups dws b N bo) : l.sent.length = pks.length ∧ l.came ≤ pks.length ∧ l.words.length = dws.length ∧ l.frames.length = ups.length ∧ l.units.length = ups.length ∧ l.s.last = (partsP pks).length ∧ (partsP pks).length ≤ 26 * pks.length := by
  refine ⟨by rw [h.sent, sentFrom_len], h.asm.1, ?_, by rw [h.frames, List.length_map], by rw [h.units, List.length_map, h.frames, List.length_map], h.inv.last, parts_le pks h.pk.1 0⟩
  have := h.inv.hdown
  simp only [prOf] at this
  rw [this, List.length_map]
theorem LI.good (h : LI k n0 l pks ups dws b N bo) (h1 : pks.length ≤ c) (h2 : ups.length ≤ 2 * c) (h3 : dws.length ≤ c) (h4 : l.f.st.wait = false) : GoodL k n0 c l := ⟨pks, ups, dws, b, N, bo, h, h1, h2, h3, h4⟩
theorem LI.unit_size (h : LI k n0 l pks ups dws b N bo) (i : Nat) (hi : i < (partsP pks).length) : (unitOf (fr0 n0 (partsP pks) i)).size ≤ 1000 ∧ (unitOf (fr0 n0 (partsP pks) i)).data.toList = putL (fr0 n0 (partsP pks) i).enc := by
  obtain ⟨f1, f2, f3, f4⟩ := fr0_link h.pk n0 i hi
  obtain ⟨-, -, e3, -, -⟩ := enc_nat2 _ f2
  have hdz : (fr0 n0 (partsP pks) i).data = (partsP pks).getD i ⟨#[]⟩ := rfl
  have hl := putL_len (fr0 n0 (partsP pks) i).enc
  refine ⟨?_, rfl⟩
  show (putL (fr0 n0 (partsP pks) i).enc).toArray.size ≤ 1000
  rw [List.size_toArray, hl, e3, hdz]
  unfold mN
  omega
/-- The contract of Word for the word that comes down first. -/
theorem LI.word_contract {x : Lk.Dw} {ds : List Lk.Dw} (h : LI k n0 l pks ups (x :: ds) b N bo) (gf : Nat) :
    ∀ (S1 : List Nat) (W1 : World), (∀ i ∈ S1, i < W1.heap.size) → FopIn W1 gf S1 l.s → Calls Tryz.prog 29 #[.pointer (some ⟨gf, 0, none⟩), .int .u32 (Lk.dwN n0 x : Nat)] W1 fun e w' => ∃ v S', e = .returned (.tuple #[v, .int .i64 0]) ∧ Pt W1 w' gf S1 S' { wordF l.s ((n0 + x.n) % 256 : Nat) x.wait x.retx (x.n - b) with events := [] } ∧ Given W1 w' S1 S' ((l.s.sent.take (x.n - b)).map ackEv) v := by
  intro S1 W1 hl1 hi1
  obtain ⟨-, h1, h2, h3, h4, h5, h6, -⟩ := h.hear
  have hfine := h.inv.fine
  have hI := h.inv
  have hnw : Lk.dwN n0 x < 4294967296 := by
    unfold Lk.dwN wordN
    have := bn_le false; have := bn_le x.wait; have := bn_le x.retx
    omega
  have hrd := readV_word 0 x.bypd ((n0 + x.n) % 256) false x.wait x.retx (by omega) h4 (by omega)
  have hev : l.s.events = [] := hI.ev
  have := Word_ready l.s gf S1 W1 (Lk.dwN n0 x) (0 : Nat) (x.bypd : Nat) ((n0 + x.n) % 256 : Nat) x.wait x.retx (x.n - b) hnw hrd hI.chan.symm hI.serv (by rw [hev]; simp) hfine.sent hfine.base0 hfine.base1 (by omega) (by omega) h5 h3 hfine.win hl1 hi1
  rw [h6] at this
  exact this
theorem LI.tick_contract (h : LI k n0 l pks ups dws b N bo) (gf : Nat) (t : Int) (h0 : 0 ≤ t) (h1 : t ≤ 1000) :
    ∀ (S1 : List Nat) (W1 : World), FopIn W1 gf S1 l.s → Calls Tryz.prog 11 #[.pointer (some ⟨gf, 0, none⟩), .int .i64 t] W1 fun e w' => ∃ v S', e = .returned (.tuple #[v, .int .i64 0]) ∧ Pt W1 w' gf S1 S' (tickF l.s t).1 ∧ Given W1 w' S1 S' (tickF l.s t).2 v := by
  intro S1 W1 hi
  have hI := h.inv
  have h2 := hI.clock; have h3 := hI.tries; have h4 := hI.serv
  simp only [prOf] at h2 h3 h4
  exact Tick_all l.s t gf S1 W1 hI.fine (.inr (.inr h4)) h0 (by omega) (by omega) (by omega) (by omega) (by omega) hi
theorem GoodL.aft {r : Bool} (h : GoodL k n0 c l) : Aft k n0 c r l := by
  obtain ⟨_, _, _, _, _, _, h1, _⟩ := id h
  exact ⟨h1.bad, .inr (.inr h)⟩
theorem GoodL.more {c' : Nat} (h : GoodL k n0 c l) (hc : c ≤ c') : GoodL k n0 c' l := by
  obtain ⟨pks, ups, dws, b, N, bo, h1, h2, h3, h4, h5⟩ := h
  exact ⟨pks, ups, dws, b, N, bo, h1, by omega, by omega, by omega, h5⟩
variable {w W : World} {cl : Lc}
/-- A unit arrives with some bits inverted. -/
theorem arrive_any (h : LI k n0 l pks ups dws b N bo) (h1 : pks.length ≤ c) (h2 : ups.length ≤ 2 * c) (h3 : dws.length ≤ c) (h4 : l.f.st.wait = false) (hc : c ≤ 600) (hG : Gl w) (fa : Option Addr) (n cap : Nat) (S : Nat → Int) (hn : n ≤ 4) (hr : RowAt w fa n (fun i => .int .i64 (S i))) (hS : ∀ i, i < n → I64 (S i)) (hP : LkM w W cl (lkCells cl l) l) :
    Calls Tryz.prog 13 #[.pointer (some ⟨cl.L, 0, none⟩), .slice fa n cap] W fun e w' => e = .returned (.tuple #[]) ∧ ∃ l', LkIn w w' cl.L l' ∧ Aft k n0 (c + 1) true l' := by
  obtain ⟨z1, z2, z3, z4, z5, z6, z7⟩ := h.sizes
  cases ups with
  | nil =>
    have hun : l.units = [] := by rw [h.units, h.frames]; rfl
    refine (arrive_none (.slice fa n cap) hun hP).mono ?_
    rintro e w' ⟨rfl, rfl⟩
    exact ⟨rfl, l, ⟨cl, rfl, hP⟩, (h.good (c := c + 1) (by omega) (by simp) (by omega) h4).aft⟩
  | cons i us =>
    have hi : i < (partsP pks).length := h.lt i (by simp)
    obtain ⟨u1, u2⟩ := h.unit_size i hi
    have hfr : l.frames = fr0 n0 (partsP pks) i :: us.map (fr0 n0 (partsP pks)) := h.frames
    have hun : l.units = unitOf (fr0 n0 (partsP pks) i) :: (us.map (fr0 n0 (partsP pks))).map unitOf := by rw [h.units, hfr]; rfl
    simp only [List.length_cons] at h2
    have hfl := flipsL_hd ((List.range n).map S) (unitOf (fr0 n0 (partsP pks) i)).data.toList
    have hlen : (putL (fr0 n0 (partsP pks) i).enc).length = (flipsL ((List.range n).map S) (unitOf (fr0 n0 (partsP pks) i)).data.toList).length := by rw [hfl.1, u2]
    have hd4 : hd (putL (fr0 n0 (partsP pks) i).enc) (flipsL ((List.range n).map S) (unitOf (fr0 n0 (partsP pks) i)).data.toList) ≤ 4 := by
      have := hfl.2
      rw [u2] at this ⊢
      simp only [List.length_map, List.length_range] at this
      omega
    obtain ⟨a1, a2⟩ := h.arrive _ hlen hd4
    refine (arrive_walk fa n cap S hfr hun hn (by simp; omega) (by simp; omega) hG h.bad (by omega) (by omega) u1 h.pf h.pd hr hS a1 hP).mono ?_
    rintro e w' ⟨rfl, hL⟩
    refine ⟨rfl, _, hL, ?_⟩
    rcases a2 with ⟨b1, b2⟩ | ⟨N', b1⟩
    · exact ⟨b2, .inr (.inl b1)⟩
    · exact (b1.good (c := c + 1) (by omega) (by omega) (by omega) (arrS_wait _ _ _ h4)).aft
/-- A frame is sent. -/
theorem transmit_any (h : LI k n0 l pks ups dws b N bo) (h1 : pks.length ≤ c) (h2 : ups.length ≤ 2 * c) (h3 : dws.length ≤ c) (h4 : l.f.st.wait = false) (hc : c ≤ 600) (hG : Gl w) (lost twice : Bool) (hP : LkM w W cl (lkCells cl l) l) :
    ∃ r, Calls Tryz.prog 12 #[.pointer (some ⟨cl.L, 0, none⟩), .bool lost, .bool twice] W fun e w' => e = .returned (.bool r) ∧ ∃ l', LkIn w w' cl.L l' ∧ Aft k n0 (c + 1) true l' := by
  obtain ⟨z1, z2, z3, z4, z5, z6, z7⟩ := h.sizes
  obtain ⟨hN, hx⟩ := h.next
  cases hn : (nextF l.s).2 with
  | none =>
    refine ⟨false, (transmit_none lost twice h.inv.fine hn hP).mono ?_⟩
    rintro e w' ⟨rfl, hL⟩
    exact ⟨rfl, _, hL, (hN.good (c := c + 1) (by omega) (by omega) (by omega) h4).aft⟩
  | some x =>
    obtain ⟨i, hxi, hi, r1, r2⟩ := hx x hn
    obtain ⟨f1, f2, f3, f4⟩ := fr0_link h.pk n0 i hi
    rw [← hxi] at f1 f2
    refine ⟨true, (transmit_some x lost twice hG h.inv.fine hn f2 (by omega) (by omega) hP).mono ?_⟩
    rintro e w' ⟨rfl, hL⟩
    refine ⟨rfl, _, hL, ?_⟩
    cases lost with
    | true =>
      simp only [if_true, List.append_nil]
      exact (hN.good (c := c + 1) (by omega) (by omega) (by omega) h4).aft
    | false =>
      have hP1 := hN.push i r1 r2
      rw [← hxi] at hP1
      cases twice with
      | false =>
        simp only [Bool.false_eq_true, if_false]
        exact (hP1.good (c := c + 1) (by omega) (by simp; omega) (by omega) h4).aft
      | true =>
        have hP2 := hP1.push i r1 r2
        rw [← hxi] at hP2
        simp only [Bool.false_eq_true, if_false, if_true]
        simp only [List.append_assoc, List.singleton_append] at hP2
        exact (hP2.good (c := c + 1) (by omega) (by simp; omega) (by omega) h4).aft
/-- The first control word is heard. -/
theorem hear_any (h : LI k n0 l pks ups dws b N bo) (h1 : pks.length ≤ c) (h2 : ups.length ≤ 2 * c) (h3 : dws.length ≤ c) (h4 : l.f.st.wait = false) (hc : c ≤ 600) (hP : LkM w W cl (lkCells cl l) l) :
    Calls Tryz.prog 10 #[.pointer (some ⟨cl.L, 0, none⟩)] W fun e w' => e = .returned (.tuple #[]) ∧ ∃ l', LkIn w w' cl.L l' ∧ Aft k n0 (c + 1) true l' := by
  obtain ⟨z1, z2, z3, z4, z5, z6, z7⟩ := h.sizes
  cases dws with
  | nil =>
    have hwd : l.words = [] := h.inv.hdown
    refine (lk_hear_none hwd hP).mono ?_
    rintro e w' ⟨rfl, rfl⟩
    exact ⟨rfl, l, ⟨cl, rfl, hP⟩, (h.good (c := c + 1) (by omega) (by omega) (by simp) h4).aft⟩
  | cons x ds =>
    obtain ⟨g0, g1, g2, g3, g4, g5, g6, hJ⟩ := h.hear
    simp only [List.length_cons] at h3
    have hsl := h.inv.sl; have hk := h.inv.hk
    simp only [prOf] at hsl
    refine (lk_hear_walk h.bad g0 (by simp; omega) (by simp; omega) (by intro e he; simp only [List.mem_map] at he; obtain ⟨u, _, rfl⟩ := he; rfl) (h.word_contract cl.gf) hP).mono ?_
    rintro e w' ⟨rfl, c', hcL, hP'⟩
    exact ⟨rfl, _, ⟨c', hcL, hP'⟩, (hJ.good (c := c + 1) (by omega) (by omega) (by omega) h4).aft⟩
/-- A packet is sent. -/
theorem send_any (h : LI k n0 l pks ups dws b N bo) (h1 : pks.length ≤ c) (h2 : ups.length ≤ 2 * c) (h3 : dws.length ≤ c) (h4 : l.f.st.wait = false) (hc : c ≤ 600) (x y : Int) (hx : I64 x) (hy : I64 y) (hP : LkM w W cl (lkCells cl l) l) :
    Calls Tryz.prog 22 #[.pointer (some ⟨cl.L, 0, none⟩), .int .i64 x, .int .i64 y] W fun e w' => e = .returned (.tuple #[]) ∧ ∃ l', LkIn w w' cl.L l' ∧ Aft k n0 (c + 1) true l' := by
  obtain ⟨z1, z2, z3, z4, z5, z6, z7⟩ := h.sizes
  obtain ⟨n, hn⟩ : ∃ n : Nat, (n : Int) = x % 500 := ⟨(x % 500).toNat, by omega⟩
  obtain ⟨m, hm⟩ : ∃ m : Nat, (m : Int) = y % 180 := ⟨(y % 180).toNat, by omega⟩
  have hf := h.inv.fine
  have hsv : l.s.service = 2 := h.inv.serv
  refine (send_walk x y n m hx hy hn hm h.bad (by omega) hsv hf.win (by omega) (by omega) hf.wait hP).mono ?_
  rintro e w' ⟨rfl, hL⟩
  refine ⟨rfl, _, hL, ?_⟩
  unfold sendS
  rw [z1]
  split
  · rename_i hfit
    have := h.send (n + 1) (20 + m) (by omega) (by omega) (by omega) (by omega) (by omega) hfit
    exact (this.good (c := c + 1) (by simp; omega) (by omega) (by omega) h4).aft
  · exact (h.good (c := c + 1) (by omega) (by omega) (by omega) h4).aft
/-- Any step. -/
theorem act15_any {L : Nat} {sa : Option Addr} {sn sc : Nat} {S : Nat → Int} (hgood : GoodL k n0 c l) (hc : c ≤ 600) (hG : Gl w) (hsn : sn ≤ 100) (hsc : sn ≤ sc) (hr : RowAt w sa sn (fun i => .int .i64 (S i))) (hS : ∀ i, i < sn → I64 (S i)) (n : Int) (hn : I64 n) (hP : LkIn w W L l) :
    Calls Tryz.prog 5 #[.pointer (some ⟨L, 0, none⟩), .int .i64 n, .slice sa sn sc] W fun e w' => ∃ r l', e = .returned (.bool r) ∧ LkIn w w' L l' ∧ Aft k n0 (c + 1) r l' := by
  obtain ⟨pks, ups, dws, b, N, bo, h, h1, h2, h3, h4⟩ := hgood
  obtain ⟨cl, rfl, hP⟩ := hP
  obtain ⟨m, hm⟩ : ∃ m : Nat, (m : Int) = n % 1024 := ⟨(n % 1024).toNat, by omega⟩
  have hm1 : m < 1024 := by omega
  have hmm : m % 16 = 0 ∨ m % 16 = 1 ∨ m % 16 = 2 ∨ m % 16 = 3 ∨ m % 16 = 4 ∨ m % 16 = 5 ∨ m % 16 = 6 ∨ m % 16 = 7 ∨ m % 16 = 8 ∨ m % 16 = 9 ∨ m % 16 = 10 ∨ m % 16 = 11 ∨ m % 16 = 12 ∨ m % 16 = 13 ∨ m % 16 = 14 ∨ m % 16 = 15 := by omega
  obtain ⟨z1, z2, z3, z4, z5, z6, z7⟩ := h.sizes
  have fin : ∀ {R : World → Prop}, (∀ w', R w' → ∃ l', LkIn w w' cl.L l' ∧ Aft k n0 (c + 1) true l') → (Calls Tryz.prog 5 #[.pointer (some ⟨cl.L, 0, none⟩), .int .i64 n, .slice sa sn sc] W fun e w' => e = .returned (.bool true) ∧ R w') →
      Calls Tryz.prog 5 #[.pointer (some ⟨cl.L, 0, none⟩), .int .i64 n, .slice sa sn sc] W fun e w' => ∃ r l', e = .returned (.bool r) ∧ LkIn w w' cl.L l' ∧ Aft k n0 (c + 1) r l' := fun {R} hR hC => hC.mono (by
    rintro e w' ⟨rfl, hr⟩
    obtain ⟨l', g1, g2⟩ := hR w' hr
    exact ⟨true, l', rfl, g1, g2⟩)
  have hflip : ∃ fa n1 n2, (∀ W, (Instr.slice 22 (.slice sa sn sc) (some (.int .i64 (((m / 16) % (sn + 1) : Nat) : Int))) (some (.int .i64 ((min sn ((m / 16) % (sn + 1) + 1 + m / 16 % 4) : Nat) : Int))) none).run Tryz.prog W = .ok (.slice fa n1 n2) W) ∧
      Calls Tryz.prog 13 #[.pointer (some ⟨cl.L, 0, none⟩), .slice fa n1 n2] W fun e w' => e = .returned (.tuple #[]) ∧ ∃ l', LkIn w w' cl.L l' ∧ Aft k n0 (c + 1) true l' := by
    have hat : (m / 16) % (sn + 1) ≤ sn := Nat.le_of_lt_succ (Nat.mod_lt _ (by omega))
    obtain ⟨at_, hat2⟩ : ∃ at_, at_ = (m / 16) % (sn + 1) := ⟨_, rfl⟩
    rw [← hat2] at hat ⊢
    obtain ⟨hi, hhi⟩ : ∃ hi, hi = min sn (at_ + 1 + m / 16 % 4) := ⟨_, rfl⟩
    rw [← hhi]
    obtain ⟨a', s1, s2⟩ := ints_slice hr (l := at_) (h := hi) (by omega) (by omega) hsc
    exact ⟨a', hi - at_, sc - at_, s1, arrive_any h h1 h2 h3 h4 hc hG a' (hi - at_) (sc - at_) (fun i => S (at_ + i)) (by omega) s2 (fun i hi2 => hS _ (by omega)) hP⟩
  obtain ⟨fa, n1, n2, f1, f2⟩ := hflip
  have harr := arrive_any h h1 h2 h3 h4 hc hG none 0 0 (fun _ => 0) (by omega) (fun i hi => by omega) (fun i hi => by omega) hP
  have hsnd := send_any h h1 h2 h3 h4 hc ((m : Int) / 16 * 9) ((m : Int) / 16 * 5) ⟨by omega, by omega⟩ ⟨by omega, by omega⟩ hP
  have hhr := hear_any h h1 h2 h3 h4 hc hP
  rcases hmm with hq | hq | hq | hq | hq | hq | hq | hq | hq | hq | hq | hq | hq | hq | hq | hq
  · exact fin (fun w' hr => hr) (act_s0 cl.L _ n m hn hm hq _ hsnd)
  · exact fin (fun w' hr => hr) (act_s1 cl.L _ n m hn hm hq _ hsnd)
  · obtain ⟨r, ht⟩ := transmit_any h h1 h2 h3 h4 hc hG false false hP
    exact fin (fun w' hr => hr) (act_t2 cl.L _ n m hn hm hq _ r ht)
  · obtain ⟨r, ht⟩ := transmit_any h h1 h2 h3 h4 hc hG false false hP
    exact fin (fun w' hr => hr) (act_t3 cl.L _ n m hn hm hq _ r ht)
  · obtain ⟨r, ht⟩ := transmit_any h h1 h2 h3 h4 hc hG false false hP
    exact fin (fun w' hr => hr) (act_t4 cl.L _ n m hn hm hq _ r ht)
  · obtain ⟨r, ht⟩ := transmit_any h h1 h2 h3 h4 hc hG true false hP
    exact fin (fun w' hr => hr) (act_t5 cl.L _ n m hn hm hq _ r ht)
  · obtain ⟨r, ht⟩ := transmit_any h h1 h2 h3 h4 hc hG false true hP
    exact fin (fun w' hr => hr) (act_t6 cl.L _ n m hn hm hq _ r ht)
  · exact fin (fun w' hr => hr) (act_a7 cl.L _ n m hn hm hq _ harr)
  · exact fin (fun w' hr => hr) (act_a8 cl.L _ n m hn hm hq _ harr)
  · exact fin (fun w' hr => hr) (act_f9 cl.L _ n m hn hm hq _ rfl (by omega) rfl rfl f1 f2)
  · exact fin (fun w' hr => hr) (act_f10 cl.L _ n m hn hm hq _ rfl (by omega) rfl rfl f1 f2)
  · refine fin (R := fun w' => LkIn w w' cl.L _) (fun w' hr => ⟨_, hr, ?_⟩) (act_word n m hn hm hq (by omega) (lk_word h) hP)
    exact (h.word.good (c := c + 1) (by omega) (by omega) (by simp; omega) h4).aft
  · exact fin (fun w' hr => hr) (act_i12 cl.L _ n m hn hm hq (fun w' => ∃ l', LkIn w w' cl.L l' ∧ Aft k n0 (c + 1) true l') ⟨l, ⟨cl, rfl, hP⟩, (h.good (c := c + 1) (by omega) (by omega) (by omega) h4).aft⟩)
  · exact fin (fun w' hr => hr) (act_h13 cl.L _ n m hn hm hq _ hhr)
  · exact fin (fun w' hr => hr) (act_h14 cl.L _ n m hn hm hq _ hhr)
  · rcases h.tick ((m : Int) / 16 % 60) (by omega) with ⟨t1, t2⟩ | t1
    · refine (act_tick n m hn hm hq h.bad (r := true) (by rw [t1]; rfl) (h.tick_contract cl.gf _ (by omega) (by omega)) hP).mono ?_
      rintro e w' ⟨rfl, hL⟩
      exact ⟨true, _, rfl, hL, (t2.good (c := c + 1) (by omega) (by omega) (by omega) h4).aft⟩
    · refine (act_tick n m hn hm hq h.bad (r := false) (by rw [t1]; rfl) (h.tick_contract cl.gf _ (by omega) (by omega)) hP).mono ?_
      rintro e w' ⟨rfl, hL⟩
      exact ⟨false, _, rfl, hL, h.bad, .inl rfl⟩
end
end
section
open Go.RowKit
section
variable {k n0 : Nat} {l : Ls} {pks : List (Nat × Nat)} {ups : List Nat} {dws : List Lk.Dw} {b N : Nat} {bo : Option Nat} {w W : World} {c : Lc}
def nwOf (n0 N : Nat) (l : Ls) : Nat := wordN 0 l.f.st.bypd.toNat ((n0 + N) % 256) false l.f.st.wait l.f.st.retx
/-- The control word that was just sent is heard. -/
theorem told_hear (h : LI k n0 l pks ups [] b N bo) (hP : LkM w W c (lkCells c { l with words := l.words ++ [nwOf n0 N l] }) { l with words := l.words ++ [nwOf n0 N l] }) :
    Calls Tryz.prog 10 #[.pointer (some ⟨c.L, 0, none⟩)] W fun e w' => e = .returned (.tuple #[]) ∧ LkIn w w' c.L (toldS n0 b N l) := by
  have hw := h.word
  obtain ⟨g0, g1, g2, g3, g4, g5, g6, hJ⟩ := hw.hear
  have hsl := h.inv.sl; have hk := h.inv.hk
  simp only [prOf] at hsl
  refine (lk_hear_walk hw.bad g0 (by simp) (by simp; omega) (by intro e he; simp only [List.mem_map] at he; obtain ⟨u, _, rfl⟩ := he; rfl) (hw.word_contract c.gf) hP).mono ?_
  rintro e w' ⟨rfl, c', hcL, hP'⟩
  exact ⟨rfl, c', hcL, hP'⟩
theorem sentC {cs : List Value} (hwin : l.s.window ≠ 0) (h : LkM w W c cs l) : Calls Tryz.prog 7 #[.pointer (some ⟨c.gf, 0, none⟩)] W fun e w' => e = .returned (.int .i64 (l.s.sent.length : Nat)) ∧ W = w' := by
  obtain ⟨S1, hI, -⟩ := h.fop.call
  exact Sent_in l.s c.gf S1 W hwin hI
theorem waitC {cs : List Value} (hwin : l.s.window ≠ 0) (h : LkM w W c cs l) : Calls Tryz.prog 8 #[.pointer (some ⟨c.gf, 0, none⟩)] W fun e w' => e = .returned (.int .i64 (l.s.waiting.length : Nat)) ∧ W = w' := by
  obtain ⟨S1, hI, -⟩ := h.fop.call
  exact Waiting_in l.s c.gf S1 W hwin hI
/-- A frame is sent and arrives, or all have been sent. -/
theorem run_any {j L : Nat} (h : Du k n0 l pks b j bo) (hG : Gl w) (hp : pks.length ≤ 600) (hP : LkIn w W L l) :
    ((Calls Tryz.prog 12 #[.pointer (some ⟨L, 0, none⟩), .bool false, .bool false] W fun e w' => e = .returned (.bool false) ∧ LkIn w w' L l) ∧ j = l.s.sent.length ∧ (l.s.waiting = [] ∨ l.s.sent.length = k)) ∨
    ∃ l1, (Calls Tryz.prog 12 #[.pointer (some ⟨L, 0, none⟩), .bool false, .bool false] W fun e w' => e = .returned (.bool true) ∧ LkIn w w' L l1) ∧
      ∀ W1, LkIn w W1 L l1 → Calls Tryz.prog 13 #[.pointer (some ⟨L, 0, none⟩), .slice none 0 0] W1 fun e w' => e = .returned (.tuple #[]) ∧ ∃ l2 bo', LkIn w w' L l2 ∧ Du k n0 l2 pks b (j + 1) bo' := by
  obtain ⟨z1, z2, z3, z4, z5, z6, z7⟩ := h.li.sizes
  obtain ⟨c, rfl, hP⟩ := hP
  rcases h.step with ⟨s1, s2, s3⟩ | ⟨x, s1, s2, s3, bo', s4⟩
  · left
    refine ⟨?_, s2, s3⟩
    refine (transmit_none false false h.li.inv.fine (by show (nextF l.s).2 = none; rw [s1]) hP).mono ?_
    rintro e w' ⟨rfl, hL⟩
    rw [s1] at hL
    exact ⟨rfl, hL⟩
  · right
    have hi : b + j < (partsP pks).length := s3.lt (b + j) (by simp)
    obtain ⟨f1, f2, f3, f4⟩ := fr0_link h.li.pk n0 (b + j) hi
    obtain ⟨u1, u2⟩ := s3.unit_size (b + j) hi
    rw [← s2] at f2 u1 u2
    have hfr : l.frames = [] := h.li.frames
    have hun : l.units = [] := by rw [h.li.units, hfr]; rfl
    refine ⟨runS l x, ?_, fun W1 hP1 => ?_⟩
    · refine (transmit_some x false false hG h.li.inv.fine s1 f2 (by rw [hfr]; simp) (by rw [hun]; simp) hP).mono ?_
      rintro e w' ⟨rfl, hL⟩
      have e1 : ({ l with s := (nextF l.s).1, frames := l.frames ++ (if false = true then [] else if false = true then [x, x] else [x]), units := l.units ++ (if false = true then [] else if false = true then [unitOf x, unitOf x] else [unitOf x]) } : Ls) = runS l x := by
        rw [hfr, hun]; rfl
      rw [e1] at hL
      exact ⟨rfl, hL⟩
    · obtain ⟨c1, hc1, hP1⟩ := hP1
      rw [← hc1]
      have hxx := s2
      have hok := (s3.arrive (putL x.enc) (by rw [← hxx]) (by rw [← hxx, hd_self]; omega)).1
      rw [← hxx] at hok
      have hfl : flipsL ((List.range 0).map fun _ => (0 : Int)) (unitOf x).data.toList = putL x.enc := u2
      have := arrive_walk (x := x) (fr := []) (u := unitOf x) (un := []) none 0 0 (fun _ => 0) (l := runS l x) rfl rfl (by omega) (by simp) (by simp) hG s3.bad (by show l.sent.length ≤ _; omega) (by show l.came ≤ _; omega) u1 s3.pf s3.pd (fun i hi => by omega) (fun i hi => by omega) (by rw [hfl]; exact hok) hP1
      rw [hfl] at this
      refine this.mono ?_
      rintro e w' ⟨rfl, hL⟩
      exact ⟨rfl, _, bo', hL, s4⟩
/-- The parser begins anew. -/
theorem reset_any (hP : LkM w W c (lkCells c l) l) : Calls Tryz.prog 6 #[.pointer (some ⟨c.P, 0, none⟩)] W fun e w' => e = .returned (.tuple #[]) ∧ LkIn w w' c.L { l with ps := searchS l.ps } := by
  refine (clReset_any c.P c.dv c.kv (.slice none 0 0) l.ps W hP.par).mono ?_
  rintro e w' ⟨rfl, hK, hM⟩
  refine ⟨rfl, ?_⟩
  have hTo : PTo W w' c.P c.dv c.kv (.slice none 0 0) (.slice none 0 0) (.slice none 0 0) (.slice none 0 0) := ⟨hK.mono (fun i hi => by simp at hi; simp [hi]), (fun k hk => by cases hk), (fun k hk => by cases hk), (fun k hk => by cases hk)⟩
  obtain ⟨h1, -, -⟩ := hP.parser hTo hM ⟨(fun k _ hk => by cases hk), (fun k _ hk => by cases hk), (fun k _ hk => by cases hk)⟩ (fun x hx => by cases hx)
  exact ⟨{ c with dv := .slice none 0 0, kv := .slice none 0 0 }, rfl, h1⟩
/-- All that is under way is lost. -/
theorem LkM.drop (hP : LkM w W c (lkCells c l) l) : ∃ c' : Lc, c'.L = c.L ∧ c'.P = c.P ∧ LkM w (((W.setCell ⟨c.L, 7, none⟩ (.slice none 0 0)).setCell ⟨c.L, 6, none⟩ (.slice none 0 0)).setCell ⟨c.L, 8, none⟩ (.slice none 0 0)) c' (lkCells c' { l with units := [], frames := [], words := [] }) { l with units := [], frames := [], words := [] } := by
  have h3 := ((hP.poke 7 (.slice none 0 0)).poke 6 (.slice none 0 0)).poke 8 (.slice none 0 0)
  have h4 := h3.rowU (v' := .slice none 0 0) (q := []) (Keep.refl _ _) (fun j hj => by cases hj) (q_nil _ _ _ _)
  have h5 := h4.rowF (v' := .slice none 0 0) (q := []) (Keep.refl _ _) (fun j hj => by cases hj) (q_nil _ _ _ _)
  have h6 := h5.rowW (v' := .slice none 0 0) (q := []) (Keep.refl _ _) (fun j hj => by cases hj) (q_nil _ _ _ _)
  exact ⟨{ c with uv := .slice none 0 0, fv := .slice none 0 0, wv := .slice none 0 0 }, rfl, rfl, h6⟩
end
end
end Go.Proofs.YtgopighmifpefaaGreatDoor
