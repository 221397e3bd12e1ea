/- What is proved here: the walk of the law about the limit of transmissions. -/
import Derived.Test.YtbncejmohhejlaaFl1
set_option linter.unusedVariables false
set_option linter.unusedSimpArgs false
namespace Go.Proofs.Ytbncejmohhejlaa
open Go.RowKit
def limB (k n tm s : Int) : Fs := beginF (newF 1 2 k n tm) 1 s
def limEnd (k n tm s : Int) (u m N : Nat) : Fs := { alertF { stR (limB k n tm s) u m N m with clock := 0 } 1 with events := [] }
def limSt (k n tm s : Int) (u m N r : Nat) : Fs := if r ≤ N then stR (limB k n tm s) u m r 0 else limEnd k n tm s u m N
section
variable (k n tm s : Int) (u m N r i : Nat) (g : Nat) (S : List Nat) (w : World)
theorem lim_send (hi : i < 60) (hk : 1 ≤ k) (h : FopIn w g S { limB k n tm s with last := i, waiting := unitsN i }) :
    Calls Try.prog 16 #[.pointer (some ⟨g, 0, none⟩), .string ⟨#[UInt8.ofNat i]⟩] w fun e w' => e = .returned (.tuple #[.int .i64 ((i : Int) + 1), .int .i64 0]) ∧ FopTo w w' g S { limB k n tm s with last := ((i + 1 : Nat) : Int), waiting := unitsN (i + 1) } := by
  have := Send_ok { limB k n tm s with last := i, waiting := unitsN i } g S w ⟨#[UInt8.ofNat i]⟩ rfl rfl (by simp [unitsN_len]; omega) (by show (0 : Int) ≤ (i : Int); omega) (by show (i : Int) ≤ 1000000000; omega) (show k ≠ 0 by omega) h
  rw [unitsN_succ]
  exact this
theorem lim_next1 (hs0 : 0 ≤ s) (hs1 : s ≤ 255) (hk : 1 ≤ k) (hk2 : k ≤ 127) (hi : i < m) (hm : m ≤ u) (hu : u ≤ 60) (hmk : (m : Int) ≤ k) (hl : ∀ i ∈ S, i < w.heap.size) (h : FopIn w g S (stR (limB k n tm s) u m 1 i)) :
    Calls Try.prog 13 #[.pointer (some ⟨g, 0, none⟩)] w fun e w' => e = .returned (.tuple #[.agg #[.int .i64 1, .int .i64 2, .bool false, .bool false, .int .i64 ((s + (i : Int)) % 256), .string ⟨#[UInt8.ofNat i]⟩], .bool true]) ∧ FopTo w w' g S (stR (limB k n tm s) u m 1 (i + 1)) := by
  have hlen := stR_len1 (limB k n tm s) u m i (by omega)
  have := Next_new (stR (limB k n tm s) u m 1 i) g S w (unitN i) ((unitsN u).drop (i + 1)) (stR_new _ u m i (by omega)) (by simp [unitsN_len]; omega) hs0 hs1 (off_of (fun x hx => unitsN_off u x (List.mem_of_mem_take (by unfold stR at hx; simpa using hx)))) (by rw [hlen]; omega) hl rfl rfl rfl rfl rfl (by rw [hlen]; show (i : Int) < k; omega) (show k ≠ 0 by omega) h
  rw [stR_new2 _ u m i (by omega), hlen] at this
  exact this
theorem lim_next2 (hr : r ≠ 1) (hs0 : 0 ≤ s) (hs1 : s ≤ 255) (hk : 1 ≤ k) (hi : i < m) (hm : m ≤ u) (hu : u ≤ 60) (hl : ∀ i ∈ S, i < w.heap.size) (h : FopIn w g S (stR (limB k n tm s) u m r i)) :
    Calls Try.prog 13 #[.pointer (some ⟨g, 0, none⟩)] w fun e w' => e = .returned (.tuple #[.agg #[.int .i64 1, .int .i64 2, .bool false, .bool false, .int .i64 ((s + (i : Int)) % 256), .string ⟨#[UInt8.ofNat i]⟩], .bool true]) ∧ FopTo w w' g S (stR (limB k n tm s) u m r (i + 1)) := by
  have hlen := stR_len (limB k n tm s) u m r i hm (by omega) hr
  have hat := stR_at (limB k n tm s) u m r i hm hi hr
  have := Next_marked (stR (limB k n tm s) u m r i) g S w i (by rw [hlen]; exact hi) (by rw [hat]; rfl) (stR_before _ u m r i hm (by omega) hr) hs0 hs1 (by rw [hlen]; omega) hl rfl rfl rfl rfl rfl (show k ≠ 0 by omega) h
  rw [hat, stR_set _ u m r i hm hi hr] at this
  exact this
theorem lim_next (hr : 1 ≤ r) (hs0 : 0 ≤ s) (hs1 : s ≤ 255) (hk : 1 ≤ k) (hk2 : k ≤ 127) (hi : i < m) (hm : m ≤ u) (hu : u ≤ 60) (hmk : (m : Int) ≤ k) (hl : ∀ i ∈ S, i < w.heap.size) (h : FopIn w g S (stR (limB k n tm s) u m r i)) :
    Calls Try.prog 13 #[.pointer (some ⟨g, 0, none⟩)] w fun e w' => e = .returned (.tuple #[.agg #[.int .i64 1, .int .i64 2, .bool false, .bool false, .int .i64 ((s + (i : Int)) % 256), .string ⟨#[UInt8.ofNat i]⟩], .bool true]) ∧ FopTo w w' g S (stR (limB k n tm s) u m r (i + 1)) := by
  by_cases h1 : r = 1
  · subst h1
    exact lim_next1 k n tm s u m i g S w hs0 hs1 hk hk2 hi hm hu hmk hl h
  · exact lim_next2 k n tm s u m r i g S w h1 hs0 hs1 hk hi hm hu hl h
theorem lim_none (hk : 1 ≤ k) (hm : m ≤ u) (hu : u ≤ 60) (hmk : (m : Int) = k ∨ m = u) (hl : ∀ i ∈ S, i < w.heap.size) (h : FopIn w g S (stR (limB k n tm s) u m r m)) :
    Calls Try.prog 13 #[.pointer (some ⟨g, 0, none⟩)] w fun e w' => e = .returned (.tuple #[.agg #[.int .i64 0, .int .i64 0, .bool false, .bool false, .int .i64 0, .string ⟨#[]⟩], .bool false]) ∧ FopTo w w' g S (stR (limB k n tm s) u m r m) := by
  have he := stR_end (limB k n tm s) u m r hm
  have hlen : (stR (limB k n tm s) u m r m).sent.length = m := by rw [he.1]; simp [unitsN_len]; omega
  refine Next_full (stR (limB k n tm s) u m r m) g S w (off_of (fun x hx => unitsN_off u x (List.mem_of_mem_take (by rw [he.1] at hx; exact hx)))) (by rw [hlen]; omega) hl rfl rfl rfl rfl rfl ?_ (show k ≠ 0 by omega) h
  rcases hmk with e | e
  · left; rw [hlen, e]; exact Int.le_refl _
  · right; rw [he.2, e]; simp [unitsN]
theorem lim_wait (hk : 1 ≤ k) (ht : 1 ≤ tm) (ht2 : tm ≤ 1073741824) (hm : m ≤ u) (hm1 : 1 ≤ m) (h : FopIn w g S (stR (limB k n tm s) u m r m)) :
    Calls Try.prog 18 #[.pointer (some ⟨g, 0, none⟩), .int .i64 (tm - 1)] w fun e w' => e = .returned (.tuple #[.slice none 0 0, .int .i64 0]) ∧ FopTo w w' g S { stR (limB k n tm s) u m r m with clock := 1 } := by
  have he := stR_end (limB k n tm s) u m r hm
  have := Tick_wait (stR (limB k n tm s) u m r m) g S w (tm - 1) (by omega) (by omega) rfl (.inr ⟨rfl, by rw [he.1]; simp [unitsN_len]; omega⟩) (by show (-4000000000000000000 : Int) ≤ tm; omega) (by show tm ≤ 4000000000000000000; omega) (by show 0 < tm - (tm - 1); omega) (show k ≠ 0 by omega) h
  have e1 : (stR (limB k n tm s) u m r m).clock - (tm - 1) = 1 := by show tm - (tm - 1) = 1; omega
  rw [e1] at this
  exact this
theorem lim_again (hk : 1 ≤ k) (hr : 1 ≤ r) (hrn : (r : Int) < n) (hn : n ≤ 100) (hm : m ≤ u) (hm1 : 1 ≤ m) (hu : u ≤ 60) (h : FopIn w g S { stR (limB k n tm s) u m r m with clock := 1 }) :
    Calls Try.prog 18 #[.pointer (some ⟨g, 0, none⟩), .int .i64 1] w fun e w' => e = .returned (.tuple #[.slice none 0 0, .int .i64 0]) ∧ FopTo w w' g S (stR (limB k n tm s) u m (r + 1) 0) := by
  have he := stR_end (limB k n tm s) u m r hm
  have := Tick_again { stR (limB k n tm s) u m r m with clock := 1 } g S w 1 (by omega) (by omega) rfl (.inr ⟨rfl, by show 0 < (stR (limB k n tm s) u m r m).sent.length; rw [he.1]; simp [unitsN_len]; omega⟩) (by show (-4000000000000000000 : Int) ≤ 1; omega) (by show (1 : Int) ≤ 4000000000000000000; omega) (by show (1 : Int) - 1 ≤ 0; omega) (by show (r : Int) < n; omega) (by show (0 : Int) ≤ (r : Int); omega) (by show (r : Int) ≤ 1000; omega) (by show (stR (limB k n tm s) u m r m).sent.length ≤ 1000000; rw [he.1]; simp [unitsN_len]; omega) (show k ≠ 0 by omega) h
  rw [stR_again _ u m r hm hr rfl rfl rfl] at this
  exact this
theorem lim_alert (hk : 1 ≤ k) (hN : n = (N : Int)) (hN1 : 1 ≤ N) (hm : m ≤ u) (hm1 : 1 ≤ m) (hu : u ≤ 60) (h : FopIn w g S { stR (limB k n tm s) u m N m with clock := 1 }) :
    Calls Try.prog 18 #[.pointer (some ⟨g, 0, none⟩), .int .i64 1] w fun e w' => ∃ v S', e = .returned (.tuple #[v, .int .i64 0]) ∧ Pt w w' g S S' (limEnd k n tm s u m N) ∧ Given w w' S S' [⟨3, 0, 1⟩] v := by
  have he := stR_end (limB k n tm s) u m N hm
  exact Tick_alert { stR (limB k n tm s) u m N m with clock := 1 } g S w 1 (by omega) (by omega) rfl (.inr ⟨rfl, by show 0 < (stR (limB k n tm s) u m N m).sent.length; rw [he.1]; simp [unitsN_len]; omega⟩) (by show (-4000000000000000000 : Int) ≤ 1; omega) (by show (1 : Int) ≤ 4000000000000000000; omega) (by show (1 : Int) - 1 ≤ 0; omega) (by show n ≤ (N : Int); omega) (by show (0 : Nat) ≤ 1000000; omega) (show k ≠ 0 by omega) h
theorem lim_down (hk : 1 ≤ k) (hl : ∀ i ∈ S, i < w.heap.size) (h : FopIn w g S (limEnd k n tm s u m N)) :
    Calls Try.prog 13 #[.pointer (some ⟨g, 0, none⟩)] w fun e w' => e = .returned (.tuple #[.agg #[.int .i64 0, .int .i64 0, .bool false, .bool false, .int .i64 0, .string ⟨#[]⟩], .bool false]) ∧ FopTo w w' g S (limEnd k n tm s u m N) :=
  Next_down (limEnd k n tm s u m N) g S w hl rfl rfl rfl (.inl (by show (0 : Int) ≠ 2; decide)) (show k ≠ 0 by omega) h
theorem lim_ready (hk : 1 ≤ k) (h : FopIn w g S (limEnd k n tm s u m N)) : Calls Try.prog 12 #[.pointer (some ⟨g, 0, none⟩)] w fun e w' => e = .returned (.bool false) ∧ w = w' :=
  Ready_in (limEnd k n tm s u m N) g S w (show k ≠ 0 by omega) h
theorem lim_sent0 (hk : 1 ≤ k) (h : FopIn w g S (limEnd k n tm s u m N)) : Calls Try.prog 19 #[.pointer (some ⟨g, 0, none⟩)] w fun e w' => e = .returned (.int .i64 0) ∧ w = w' :=
  Sent_in (limEnd k n tm s u m N) g S w (show k ≠ 0 by omega) h
theorem lim_wait0 (hk : 1 ≤ k) (h : FopIn w g S (limEnd k n tm s u m N)) : Calls Try.prog 20 #[.pointer (some ⟨g, 0, none⟩)] w fun e w' => e = .returned (.int .i64 0) ∧ w = w' :=
  Waiting_in (limEnd k n tm s u m N) g S w (show k ≠ 0 by omega) h
theorem lim_begin (hk : 1 ≤ k) (h : FopIn w g S (limEnd k n tm s u m N)) : Calls Try.prog 11 #[.pointer (some ⟨g, 0, none⟩), .int .i64 2, .int .i64 0] w fun e w' => e = .returned (.int .i64 0) ∧ FopTo w w' g S (beginF (limEnd k n tm s u m N) 2 0) :=
  Begin_ok 2 0 (limEnd k n tm s u m N) g S w (by omega) (by omega) (by omega) (by omega) rfl (show k ≠ 0 by omega) h
end
end Go.Proofs.Ytbncejmohhejlaa
