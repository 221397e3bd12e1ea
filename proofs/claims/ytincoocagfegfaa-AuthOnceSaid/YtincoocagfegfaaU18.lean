/- What is proved here: what Open of guards answers, for every channel and data. -/
import Derived.Test.YtincoocagfegfaaU13
set_option linter.unusedVariables false
set_option linter.unusedSimpArgs false
namespace Go.Proofs.Ytincoocagfegfaa
open Go.RowKit
theorem open_bad (key : List UInt8) (s : Gs) (ch : Nat) (d : ByteArray) (he : (openIn key s ch d).err ≠ 0) : (openIn key s ch d).cmd = Cm.zero ∧ (openIn key s ch d).st = s ∧ (openIn key s ch d).save = ⟨#[]⟩ := by
  by_cases hr : (sumL key ch (d.extract 0 (d.size - 8)).data.toList == (d.extract (d.size - 8) d.size).data.toList) = false
  · unfold openIn
    rw [if_pos hr]
    exact ⟨rfl, rfl, rfl⟩
  · by_cases hn : (num64 (d.extract 0 8).data.toList).toNat ≤ (s.l ch).toNat
    · unfold openIn
      rw [if_neg hr]
      simp only [Int.toNat_natCast]
      rw [if_pos hn]
      exact ⟨rfl, rfl, rfl⟩
    · exfalso
      apply he
      unfold openIn
      rw [if_neg hr]
      simp only [Int.toNat_natCast]
      rw [if_neg hn]
/-- What Open answers: nothing, or a command of that channel, with a greater counter, whose sealed form the data is. -/
def OpenLaw (key : List UInt8) (s : Gs) (ch : Int) (d : ByteArray) (b : Cm) (sv : ByteArray) (er : Int) (s' : Gs) : Prop :=
  (er ≠ 0 ∧ b = Cm.zero ∧ s' = s ∧ sv = ⟨#[]⟩) ∨ (er = 0 ∧ b.ok ∧ b.chan = ch ∧ d.data.toList = sealL key b ∧ (s.l b.chan.toNat).toNat < b.cnt.toNat ∧ s' = s.take b.chan.toNat b.cnt ∧ sv = ⟨(textL s').toArray⟩)
theorem aOpen_all (g : Nat) (key : ByteArray) (s : Gs) (ch : Int) (d : ByteArray) (w : World) (hk : key.size = 16) (hB : Gd w g key s) :
    Calls Try.prog 16 #[.pointer (some ⟨g, 0, none⟩), .int .i64 ch, .string d] w fun e w' => ∃ (b : Cm) (sv : ByteArray) (er : Int) (s' : Gs), OpenLaw key.data.toList s ch d b sv er s' ∧ e = .returned (.tuple #[b.val, .string sv, .int .i64 er]) ∧ Keep [g] w w' ∧ Gd w' g key s' := by
  by_cases h0 : 0 ≤ ch ∧ ch ≤ 7
  · by_cases h1 : 17 ≤ d.size ∧ d.size ≤ 197
    · obtain ⟨c, rfl⟩ : ∃ c : Nat, ch = c := ⟨ch.toNat, by omega⟩
      have h7 : c < 8 := by omega
      refine (aOpen_in g key s c d w hk hB h7 h1.1 h1.2).mono ?_
      rintro e w' ⟨rfl, hK, hG⟩
      refine ⟨_, _, _, _, ?_, rfl, hK, hG⟩
      by_cases he : (openIn key.data.toList s c d).err = 0
      · obtain ⟨k1, k2, k3, k4, k5, k6⟩ := open_was key.data.toList s c d h7 h1.1 h1.2 he
        have k7 : (openIn key.data.toList s c d).cmd.chan.toNat = c := by rw [k2]; simp
        exact .inr ⟨he, k1, k2, k3, by rw [k7]; exact k4, by rw [k7]; exact k5, k6⟩
      · obtain ⟨k1, k2, k3⟩ := open_bad key.data.toList s c d he
        exact .inl ⟨he, k1, k2, k3⟩
    · refine (aOpen_form g key s ch d w hk hB h0.1 h0.2 h1).mono ?_
      rintro e w' ⟨rfl, hL⟩
      exact ⟨Cm.zero, ⟨#[]⟩, 6, s, .inl ⟨by decide, rfl, rfl, rfl⟩, rfl, (Keep.refl [g] w).below hL (Nat.le_refl _), hB.below hL hB.lt⟩
  · refine (aOpen_arg g key s ch d w hk hB h0).mono ?_
    rintro e w' ⟨rfl, hL⟩
    exact ⟨Cm.zero, ⟨#[]⟩, 2, s, .inl ⟨by decide, rfl, rfl, rfl⟩, rfl, (Keep.refl [g] w).below hL (Nat.le_refl _), hB.below hL hB.lt⟩
end Go.Proofs.Ytincoocagfegfaa
