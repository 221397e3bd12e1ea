/- What is proved here: walks of the keyed sum: its beginning; Sum. -/
import Derived.Test.YtincoocagfegfaaK4
import Derived.Test.YtincoocagfegfaaStr
set_option linter.unusedVariables false
set_option linter.unusedSimpArgs false
namespace Go.Proofs.Ytincoocagfegfaa
open Go.RowKit
def Four.begin (key : List UInt8) : Four :=
  let k := numLE (key.take 8); let l := numLE (key.drop 8)
  ⟨k ^^^ 0x736f6d6570736575#64, l ^^^ 0x646f72616e646f6d#64, k ^^^ 0x6c7967656e657261#64, l ^^^ 0x7465646279746573#64⟩
theorem xork1 (x : BitVec 64) : bits .xor .u64 (w64 x) 8317987319222330741 = w64 (x ^^^ 8317987319222330741#64) := w64_xor_lit x _
theorem xork2 (x : BitVec 64) : bits .xor .u64 (w64 x) 7237128888997146477 = w64 (x ^^^ 7237128888997146477#64) := w64_xor_lit x _
theorem xork3 (x : BitVec 64) : bits .xor .u64 (w64 x) 7816392313619706465 = w64 (x ^^^ 7816392313619706465#64) := w64_xor_lit x _
theorem xork4 (x : BitVec 64) : bits .xor .u64 (w64 x) 8387220255154660723 = w64 (x ^^^ 8387220255154660723#64) := w64_xor_lit x _
attribute [local go_sem] run_bytes bytes_size xork1 xork2 xork3 xork4
theorem bytes_at (w : World) (s : ByteArray) (g : Nat) (hs : s.size ≤ 140737488355328) (hg : g = w.heap.size) : ∀ i (hi : i < s.data.toList.length), (Lib.bytesWorld w 5 s).cell? ⟨g, i, none⟩ = some (vb s.data.toList[i]) := by
  subst hg; exact row_byte (bytes_row w s hs)
theorem bytes_at2 (w : World) (s s2 : ByteArray) (g : Nat) (hs : s.size ≤ 140737488355328) (hg : g = w.heap.size) : ∀ i (hi : i < s.data.toList.length), (Lib.bytesWorld (Lib.bytesWorld w 5 s) 5 s2).cell? ⟨g, i, none⟩ = some (vb s.data.toList[i]) := by
  subst hg; exact row_byte (row_keep (bytes_row w s hs) (bytes_keep _ s2) (fun _ _ => by simp))
theorem number_bytes (s : ByteArray) (n g cap : Nat) (w : World) (hn : n = s.size) (hs : s.size ≤ 8) (hc : ∀ i (hi : i < s.data.toList.length), w.cell? ⟨g, i, none⟩ = some (vb s.data.toList[i])) :
    Calls Try.prog 44 #[.slice (some ⟨g, 0, none⟩) n cap] w fun e w' => e = .returned (.int .u64 (w64 (numLE s.data.toList))) ∧ w = w' :=
  number_any s.data.toList n g cap w (by simpa using hn) (by simpa using hs) hc
set_option maxHeartbeats 2000000 in
theorem begin_any (key : ByteArray) (w : World) (hk : key.size = 16) :
    Calls Try.prog 39 #[.string key] w fun e w' => ∃ b, e = .returned (.pointer (some ⟨b, 0, none⟩)) ∧ Below w.heap.size w w' ∧ Summing w.heap.size w' b (Four.begin key.data.toList) [] 0 := by
  have h1 : 8 ≤ key.size := by omega
  have h2 : key.size ≤ 16 := by omega
  have hx : Four.begin key.data.toList = ⟨numLE (List.take 8 key.data.toList) ^^^ 8317987319222330741#64, numLE (List.take (key.size - 8) (List.drop 8 key.data.toList)) ^^^ 7237128888997146477#64, numLE (List.take 8 key.data.toList) ^^^ 7816392313619706465#64, numLE (List.take (key.size - 8) (List.drop 8 key.data.toList)) ^^^ 8387220255154660723#64⟩ := by
    rw [List.take_of_length_le (l := List.drop 8 key.data.toList) (by simp)]; rfl
  have Hx := Lib.hid hx; clear hx
  have Hk := Lib.hid hk; clear hk
  go_enter Try.func39, Try.ntmps39
  go_wp2_with fail
  go_region_with (go_at_call 44; first
    | (refine (number_bytes (key.extract 0 8) _ _ _ _ ?_ ?_ ?_).mono ?_; (· simp <;> omega); (· simp <;> omega); (· first | with_reducible exact bytes_at _ _ _ (by simp <;> omega) (by simp [bytes_size]) | with_reducible exact bytes_at2 _ _ _ _ (by simp <;> omega) (by simp [bytes_size])); rintro e w' ⟨rfl, rfl⟩)
    | (refine (number_bytes (key.extract 8 key.size) _ _ _ _ ?_ ?_ ?_).mono ?_; (· simp <;> omega); (· simp <;> omega); (· first | with_reducible exact bytes_at _ _ _ (by simp <;> omega) (by simp [bytes_size]) | with_reducible exact bytes_at2 _ _ _ _ (by simp <;> omega) (by simp [bytes_size])); rintro e w' ⟨rfl, rfl⟩))
  all_goals (go_wp2_with fail)
  all_goals
    go_ret
    refine ⟨w.heap.size + 1 + 1, rfl, ?_, ?_, .slice none 0 0, ?_, World.ownsRow_nil _ _ _ _⟩
    · exact (((Keep.trans (Keep.trans (Keep.refl [] w).drew (bytes_keep _ _)) (bytes_keep _ _)).alloc _).toBelow)
    · omega
    · rw [Hx.out]
      exact Blk.new_at _ _ _ _ (by rw [bytes_size, bytes_size]; simp)
end Go.Proofs.Ytincoocagfegfaa
