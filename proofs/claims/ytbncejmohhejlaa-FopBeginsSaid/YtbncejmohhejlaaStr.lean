/- What is proved here: lemmas on strings as lists of bytes. No condition. -/
import Derived.Test.YtbncejmohhejlaaRow
set_option linter.unusedVariables false
set_option linter.unusedSimpArgs false
namespace Go.Proofs.Ytbncejmohhejlaa
open Go.RowKit
def strOf (l : List UInt8) : Value := .string ⟨l.toArray⟩
theorem toList_data (s : ByteArray) : s.toList = s.data.toList := ByteArray.toList_eq s
theorem extract_str (s : ByteArray) (k : Nat) : Value.string (s.extract 0 k) = strOf (s.data.toList.take k) := by
  unfold strOf; congr 1; apply ByteArray.ext; apply Array.ext'; simp
theorem str_append (a b : ByteArray) : Value.string (a ++ b) = strOf (a.data.toList ++ b.data.toList) := by
  unfold strOf; congr 1
theorem str_of (a : ByteArray) : Value.string a = strOf a.data.toList := rfl
theorem size_mk (l : List UInt8) : (ByteArray.mk l.toArray).size = l.length := by simp [ByteArray.size]
theorem byte_string (W : World) (ci : Int) (c : UInt8) (h : ci = (c.toNat : Int)) :
    (convert 51 9 (.slice (some ⟨W.heap.size, 0, none⟩) 1 1)).run Try.prog (W.alloc (.cells #[.int .u8 ci] 5)) = .ok (.string ⟨#[c]⟩) (W.alloc (.cells #[.int .u8 ci] 5)) := by
  subst h
  exact run_string (base := W.heap.size) (xs := [c]) (.inr ⟨W.heap.size, 1, _, _, rfl, Nat.le_refl _, heap_alloc_new W _, .inl rfl, Nat.le_refl _, by decide, rfl, rfl⟩)
theorem strOf_is (l : List UInt8) : ∃ s : ByteArray, strOf l = .string s ∧ s.data.toList = l ∧ s.size = l.length := ⟨⟨l.toArray⟩, rfl, rfl, size_mk l⟩
end Go.Proofs.Ytbncejmohhejlaa
