/- What is proved here: New with a text that was saved; the counters that were accepted. -/
import Derived.Test.YtincoocagfegfaaOn
import Derived.Test.YtincoocagfegfaaU18
set_option linter.unusedVariables false
set_option linter.unusedSimpArgs false
namespace Go.Proofs.Ytincoocagfegfaa
open Go.RowKit
def lastL (G : Gs) : List Value := [vu (G.l 0), vu (G.l 1), vu (G.l 2), vu (G.l 3), vu (G.l 4), vu (G.l 5), vu (G.l 6), vu (G.l 7)]
theorem lastL_cell {W : World} {b : Nat} {G : Gs} {t : TypeId} (h : Blk W b (lastL G) t) (c : Nat) (hc : c < 8) : W.cell? ⟨b, c, none⟩ = some (.int .u64 (w64 (G.l c))) := by
  rw [Blk.cell h c]
  match c, hc with
  | 0, _ => rfl
  | 1, _ => rfl
  | 2, _ => rfl
  | 3, _ => rfl
  | 4, _ => rfl
  | 5, _ => rfl
  | 6, _ => rfl
  | 7, _ => rfl
theorem lastL_set (G : Gs) (c : Nat) (n : BitVec 64) (hc : c < 8) : (lastL G).set c (.int .u64 (w64 n)) = lastL (G.take c n) := by
  match c, hc with
  | 0, _ => simp [lastL, Gs.take, vu]
  | 1, _ => simp [lastL, Gs.take, vu]
  | 2, _ => simp [lastL, Gs.take, vu]
  | 3, _ => simp [lastL, Gs.take, vu]
  | 4, _ => simp [lastL, Gs.take, vu]
  | 5, _ => simp [lastL, Gs.take, vu]
  | 6, _ => simp [lastL, Gs.take, vu]
  | 7, _ => simp [lastL, Gs.take, vu]
theorem lastL_congr (G H : Gs) (h : ∀ i, i < 8 → H.l i = G.l i) : lastL H = lastL G := by
  unfold lastL
  rw [h 0 (by omega), h 1 (by omega), h 2 (by omega), h 3 (by omega), h 4 (by omega), h 5 (by omega), h 6 (by omega), h 7 (by omega)]
theorem kept_take (b s : ByteArray) (G : Gs) (k c : Nat) (n : BitVec 64) (h : Kept b s G k) (hk : k ≤ 1000) : Kept s ⟨(textL (G.take c n)).toArray⟩ (G.take c n) (k + 1) := by
  rcases h with ⟨rfl, -, h0, -⟩ | ⟨rfl, h1, h2, -⟩
  · have e : (G.take c n).ser.toNat = 1 := by show (G.ser + 1#64).toNat = 1; rw [h0]; rfl
    exact .inr ⟨rfl, by omega, by omega, .inl rfl⟩
  · have e : (G.take c n).ser.toNat = G.ser.toNat + 1 := by
      show (G.ser + 1#64).toNat = _
      rw [BitVec.toNat_add]
      simp
      omega
    exact .inr ⟨rfl, by omega, by omega, .inr ⟨G, rfl, by omega⟩⟩
theorem kept_mono {b s : ByteArray} {G : Gs} {k k' : Nat} (h : Kept b s G k) (hk : k ≤ k') : Kept b s G k' := by
  rcases h with h | ⟨h0, h1, h2⟩
  · exact .inl h
  · exact .inr ⟨h0, by omega, h2⟩
theorem aNew_kept (key b s : ByteArray) (G : Gs) (k : Nat) (w : World) (hk : key.size = 16) (hK : Kept b s G k) : Calls Try.prog 14 #[.string key, .string s] w fun e w' => ∃ g H, e = .returned (.tuple #[.pointer (some ⟨g, 0, none⟩), .int .i64 0]) ∧ w.heap.size ≤ g ∧ Gd w' g key H ∧ Below w.heap.size w w' ∧ Kept b s H k ∧ lastL H = lastL G := by
  rcases hK with ⟨rfl, rfl, h0, hl⟩ | ⟨rfl, h1, h2, h3⟩
  · refine (aNew_empty key w hk).mono ?_
    rintro e w' ⟨g, rfl, hg, hG, hL⟩
    exact ⟨g, Gs.zero, rfl, hg, hG, hL, .inl ⟨rfl, rfl, rfl, fun _ _ => rfl⟩, lastL_congr _ _ (fun i hi => (hl i hi).symm)⟩
  · have hsz : (⟨(textL G).toArray⟩ : ByteArray).size = 76 := by rw [size_list]; exact textL_length G
    refine (aNew_text key _ w hk (by omega) (by omega)).mono ?_
    rintro e w' ⟨hL, h⟩
    rw [if_pos (saved_text G)] at h
    obtain ⟨g, rfl, hg, hG⟩ := h
    have e1 : (readL (textL G)).ser = G.ser := (read_text G).1
    have e2 := (read_text G).2
    refine ⟨g, _, rfl, hg, hG, hL, .inr ⟨?_, ?_, ?_, ?_⟩, lastL_congr _ _ e2⟩
    · show _ = (⟨(textL (readL (textL G))).toArray⟩ : ByteArray)
      rw [text_congr G (readL (textL G)) e1 e2]
    · show (readL (textL G)).ser.toNat ≤ k; rw [e1]; exact h1
    · show 0 < (readL (textL G)).ser.toNat; rw [e1]; exact h2
    · rcases h3 with h3 | ⟨G0, h4, h5⟩
      · exact .inl h3
      · exact .inr ⟨G0, h4, by show _ < (readL (textL G)).ser.toNat; rw [e1]; exact h5⟩
theorem newE_zero (t : ByteArray) (h : newE t = 0) (h0 : t.size ≠ 0) : isSaved t.data.toList = true := by
  unfold newE at h
  rw [if_neg h0] at h
  by_cases hs : isSaved t.data.toList = true
  · exact hs
  · rw [if_neg hs] at h; exact absurd h (by decide)
end Go.Proofs.Ytincoocagfegfaa
