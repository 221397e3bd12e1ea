/- What is proved here: what the functions that read the fields of any kind do; doors of Get. -/
import Derived.Test.YtkpgenmlpkfokaaN22
set_option linter.unusedVariables false
set_option linter.unusedSimpArgs false
namespace Go.Proofs.Ytkpgenmlpkfokaa
open Go.RowKit
/-- What is read of a kind, and what is left. -/
def readU (k : Nat) (u : Un) (c : ByteArray) : Option (Un × ByteArray) :=
  match k with
  | 1 => if 2 ≤ c.size then some ({ u with size := (numN (c.data.toList.take 2) : Int), name := c.extract 2 c.size }, c.extract c.size c.size) else none
  | 2 => if 2 ≤ c.size then some ({ u with off := (numN (c.data.toList.take 2) : Int), data := c.extract 2 c.size }, c.extract c.size c.size) else none
  | 3 => if 7 ≤ c.size then some ({ u with why := (numN (c.data.toList.take 1) : Int), size := (numN ((c.data.toList.drop 1).take 2) : Int), sum := (numN ((c.data.toList.drop 3).take 4) : Int) }, c.extract 7 c.size) else none
  | 4 => if 1 ≤ c.size then some ({ u with why := (numN (c.data.toList.take 1) : Int) }, c.extract 1 c.size) else none
  | 5 => if goodGaps c = true then some ({ u with meta_ := numN (c.data.toList.take 1) == 1, gaps := gapsOf (c.data.toList.drop 1) ((c.size - 1) / 4) }, ⟨#[]⟩) else none
  | _ => if 1 ≤ c.size then some ({ u with ans := (numN (c.data.toList.take 1) : Int) }, c.extract 1 c.size) else none
def ReadPost (k g h : Nat) (c : ByteArray) (u : Un) (w : World) (e : Ending) (w' : World) : Prop :=
  (∃ u' r gv, readU k u c = some (u', r) ∧ e = .returned (.tuple #[]) ∧ Keep [g, h] w w' ∧ Blk w' g [.string r] 66 ∧ GRow w' w.heap.size gv u'.gaps ∧ Blk w' h (u'.cells gv) 25) ∨
  (readU k u c = none ∧ e = .panicked shortP ∧ Keep [g, h] w w' ∧ ∃ cs : List Value, cs.length = 11 ∧ Blk w' h cs 25)
theorem read_any (k : Nat) (h1 : 1 ≤ k) (h6 : k ≤ 6) (g h : Nat) (c : ByteArray) (u : Un) (w : World) (hB : Blk w g [.string c] 66) (hU : Blk w h (u.cells (.slice none 0 0)) 25) (hgh : g ≠ h) (hc : c.size ≤ 1000) (hg : u.gaps = []) :
    Calls Try.prog (fGet k) #[.pointer (some ⟨g, 0, none⟩), .pointer (some ⟨h, 0, none⟩)] w (ReadPost k g h c u w) := by
  have hn : ∀ w', GRow w' w.heap.size (.slice none 0 0) u.gaps := fun w' => by rw [hg]; exact GRow.nil _ _
  match k, h1, h6 with
  | 1, _, _ =>
    by_cases hl : 2 ≤ c.size
    · exact (get1_ok g h c u _ w hB hU hgh (by omega) hl).mono fun e w' hh => .inl ⟨_, _, _, if_pos hl, hh.1, hh.2.1, hh.2.2.1, hn w', hh.2.2.2⟩
    · exact (get1_short g h c u _ w hB hU hgh (by omega) (by omega)).mono fun e w' hh => .inr ⟨if_neg hl, hh⟩
  | 2, _, _ =>
    by_cases hl : 2 ≤ c.size
    · exact (get2_ok g h c u _ w hB hU hgh (by omega) hl).mono fun e w' hh => .inl ⟨_, _, _, if_pos hl, hh.1, hh.2.1, hh.2.2.1, hn w', hh.2.2.2⟩
    · exact (get2_short g h c u _ w hB hU hgh (by omega) (by omega)).mono fun e w' hh => .inr ⟨if_neg hl, hh⟩
  | 3, _, _ =>
    by_cases hl : 7 ≤ c.size
    · exact (get3_ok g h c u _ w hB hU hgh (by omega) hl).mono fun e w' hh => .inl ⟨_, _, _, if_pos hl, hh.1, hh.2.1, hh.2.2.1, hn w', hh.2.2.2⟩
    · exact (get3_short g h c u _ w hB hU hgh (by omega) (by omega)).mono fun e w' hh => .inr ⟨if_neg hl, hh⟩
  | 4, _, _ =>
    by_cases hl : 1 ≤ c.size
    · exact (get4_ok g h c u _ w hB hU hgh (by omega) hl).mono fun e w' hh => .inl ⟨_, _, _, if_pos hl, hh.1, hh.2.1, hh.2.2.1, hn w', hh.2.2.2⟩
    · exact (get4_short g h c u _ w hB hU hgh (by omega) (by omega)).mono fun e w' hh => .inr ⟨if_neg hl, hh⟩
  | 5, _, _ =>
    refine (getGaps_any g h c u w hB hU hgh hc).mono fun e w' hh => ?_
    rcases hh with ⟨h0, h1, h2, h3, gv, h4, h5⟩ | ⟨h0, h1, h2, h3⟩
    · exact .inl ⟨_, _, gv, if_pos h0, h1, h2, h3, h4, h5⟩
    · exact .inr ⟨if_neg (by rw [h0]; exact Bool.false_ne_true), h1, h2, h3⟩
  | 6, _, _ =>
    by_cases hl : 1 ≤ c.size
    · exact (get6_ok g h c u _ w hB hU hgh (by omega) hl).mono fun e w' hh => .inl ⟨_, _, _, if_pos hl, hh.1, hh.2.1, hh.2.2.1, hn w', hh.2.2.2⟩
    · exact (get6_short g h c u _ w hB hU hgh (by omega) (by omega)).mono fun e w' hh => .inr ⟨if_neg hl, hh⟩
theorem results_cells {P : Program} {fn : Func} {p q : Tmp} {ty tz : TypeId} (h : fn.results = #[.cell p ty, .cell q tz]) (tmps : Array Value) (w : World) (g g2 : Nat) (t t2 : TypeId) (cs : List Value) (k : IntKind) (x : Int)
    (hp : tmps.getD p undef = .pointer (some ⟨g, 0, none⟩)) (hq : tmps.getD q undef = .pointer (some ⟨g2, 0, none⟩)) (hB : Blk w g cs t) (hE : Blk w g2 [.int k x] t2)
    {d : TypeDesc} (hu : P.underlying ty = some d) (hd : (match d with | .struct _ | .array _ _ => true | _ => false) = true) (hi : (P.info? ty).map (·.size) = some cs.length) (hz : P.underlying tz = some (.int k)) :
    (results fn tmps).run P w = .ok (.tuple #[.agg cs.toArray, .int k x]) w := by
  have hl := run_loadVar_row (P := P) w g t ty cs.toArray (0, 0) d hB hu hd (by simpa using hi)
  have hc : w.cell? ⟨g2, 0, none⟩ = some (.int k x) := hE.cell 0
  have hl2 : (loadVar tz ⟨g2, 0, none⟩).run P w = .ok (.int k x) w := by
    simp [go_sem, loadVar, isAgg, run_underlying hz, hc]
  simp only [results, h]
  simp only [Array.getD_eq_getD_getElem?] at hp hq
  simp [hp, hq, asAddr, hl, hl2]
end Go.Proofs.Ytkpgenmlpkfokaa
