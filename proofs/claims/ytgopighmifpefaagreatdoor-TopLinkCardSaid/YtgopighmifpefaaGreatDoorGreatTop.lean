/- What is proved here: the statement TopLinkCardSaid: the law TopLink returns true for every input and leaves its arguments as they were; the two listed variables are tied to the program's text (the card). No condition. -/
import Derived.Test.YtgopighmifpefaaGreatDoorCards
import Derived.Test.YtgopighmifpefaaGreatDoorTie
import Derived.Test.YtgopighmifpefaaGreatDoorPart33
import Derived.Test.YtgopighmifpefaaGreatDoorPart05
import Derived.WalkKit
import Derived.ProofKit
import Derived.OpenShut
import Derived.ShutString
import Derived.LaidMore
import Derived.LaidLaws
import Derived.Stop.Joined
import Derived.SevenTiedAt
namespace Go.Proofs.YtgopighmifpefaaGreatDoor.topLink
open Go.ChangeShapes Go.WideShapes Go.ChangeAt Go.RowKit
open Go.Deep

theorem own : ownKnob Tryz.prog.godebug = none := by kernel_rfl
theorem g0 : Tryz.prog.globalNamed "perigee/cltu.start" = some 0 := by kernel_rfl
theorem g1 : Tryz.prog.globalNamed "perigee/cltu.halves" = some 1 := by kernel_rfl
theorem t0 : (Tryz.prog.globals[0]?).map (·.type) = some 121 := by kernel_rfl
theorem t1 : (Tryz.prog.globals[1]?).map (·.type) = some 191 := by kernel_rfl
/-- The variables that the row lists. -/
abbrev laid2 : List (String × DataW Unit) := [("perigee/cltu.start", Rows.laid_perigee_cltu_start), ("perigee/cltu.halves", Rows.laid_perigee_cltu_halves)]
/-- The heap that the program's start leaves meets the condition. -/
theorem door_met (os : Os) (args : Array Value) : laidMetH Tryz.prog laid2 ((World.doorLaid Tryz.prog 400 os).forCall (fun _ _ => 0) ⟨#[], args, []⟩).memory :=
  laidMetH_of_parts3 (fuel := 8) (laidMet_of_run' 8 (by kernel_rfl) (by kernel_rfl)) (by kernel_rfl) (by kernel_rfl)
/-- What the condition gives the walk: the cells of the tables. -/
theorem of_laid {W : World} (h : laidMetH Tryz.prog laid2 W) : Gl W := by
  rw [MakeChecks.laidMetH_plain _ _ _ (by kernel_rfl)] at h
  obtain ⟨ps, ⟨a0, b0, cs0, f0, p0, q0, ha0, hb0, hv0, hd0, ⟨a1, b1, cs1, f1, p1, q1, ha1, hb1, hv1, hd1, _, _⟩, _⟩, _, _⟩ := h
  obtain rfl := Option.some.inj (g0.symm.trans ha0)
  obtain rfl := Option.some.inj (g1.symm.trans ha1)
  obtain rfl := Option.some.inj (t0.symm.trans hb0)
  obtain rfl := Option.some.inj (t1.symm.trans hb1)
  have r0 := bytes_trod Tryz.underlying121 hd0
  have r1 := bytes_trod Tryz.underlying191 hd1
  have c0 : ∀ i, W.cell? ⟨0, i, none⟩ = cs0[i]? := World.var?_cell ha0 hv0
  have c1 : ∀ i, W.cell? ⟨1, i, none⟩ = cs1[i]? := World.var?_cell ha1 hv1
  have s0 : W.cell? ⟨0, 0, none⟩ = some (.int .u8 235) := by
    obtain ⟨x, e1, e2⟩ := r0 0 (by decide)
    rw [c0, ← Array.getElem?_toList, e1]
    have : x = 235 := by injection e2 with e2; injection e2 with e2; injection e2 with _ e2; exact e2.symm
    rw [this]
  have s1 : W.cell? ⟨0, 1, none⟩ = some (.int .u8 144) := by
    obtain ⟨x, e1, e2⟩ := r0 1 (by decide)
    rw [c0, ← Array.getElem?_toList, e1]
    have : x = 144 := by injection e2 with e2; injection e2 with e2; injection e2 with _ e2; exact e2.symm
    rw [this]
  refine ⟨s0, s1, fun i hi => ?_, ?_⟩
  · obtain ⟨x, e1, e2⟩ := r1 i hi
    rw [c1, ← Array.getElem?_toList, e1]
    have hx : x = (halvesL.getD i 0 : Nat) := by
      have hi2 : i = 0 ∨ i = 1 ∨ i = 2 ∨ i = 3 ∨ i = 4 ∨ i = 5 ∨ i = 6 ∨ i = 7 ∨ i = 8 ∨ i = 9 ∨ i = 10 ∨ i = 11 ∨ i = 12 ∨ i = 13 ∨ i = 14 ∨ i = 15 := by omega
      rcases hi2 with rfl | rfl | rfl | rfl | rfl | rfl | rfl | rfl | rfl | rfl | rfl | rfl | rfl | rfl | rfl | rfl <;>
        (injection e2 with e2; injection e2 with e2; injection e2 with _ e2; rw [← e2]; rfl)
    rw [hx]
  · obtain ⟨x, e1, e2⟩ := r1 0 (by decide)
    have hc : W.cell? ⟨1, 0, none⟩ = some (.int .u8 x) := by rw [c1, ← Array.getElem?_toList, e1]
    exact World.block_lt_of_cell? _ _ hc

theorem law_any (a b : Int) (qa sa : Option Addr) (qn qc sn sc : Nat) (Q S : Nat → Int) (w : World) (ha : I64 a) (hb : I64 b) (hG : Gl w) (hC : CourseAt w qa sa qn qc sn sc Q S) :
    Calls Tryz.prog 3 #[.int .i64 a, .int .i64 b, .agg #[.slice qa qn qc, .slice sa sn sc]] w fun e w' => e = .returned (.bool true) ∧ Below w.heap.size w w' := by
  rcases Nat.lt_or_ge 600 qn with h1 | h1
  · exact TopLink_big1 a b qa sa qn qc sn sc w h1 hC.q1
  · rcases Nat.lt_or_ge 100 sn with h2 | h2
    · exact TopLink_big2 a b qa sa qn qc sn sc w h1 h2 hC.s1
    · exact TopLink_in a b qa sa qn qc sn sc Q S w ha hb hG h1 h2 hC.s2 hC.qr hC.qi hC.sr hC.si

set_option maxRecDepth 100000 in
theorem lifted (os : Os) (started : os.Started) (H : Type) (enc : TypeId × Value → H) :
    ReturnsInHanded {} Tryz.checked os 3 .any (fun w args => (Rows.topLinkSpec.pre enc Tryz.prog Tryz.f3 [] false w args ∧ laidMetH Tryz.prog laid2 w) ∧ sizedMet enc Tryz.prog Tryz.f3 (OpenSpec.ofChange Rows.topLinkSpec) false w args)
      (Rows.topLinkSpec.post enc Tryz.prog Tryz.f3 false true false false) := by
  refine returnsInHanded_of_change_and (C := Tryz.checked) (X := fun w _ => laidMetH Tryz.prog laid2 w) (fun _ _ _ hh h => h.of_heap hh) own started (by kernel_rfl) Tryz.func3
    (ChangeSpec.witness_shaped (enc := enc) (C := Tryz.checked) (os := os) (X := fun w _ => laidMetH Tryz.prog laid2 w) false (World.doorLaid Tryz.prog 400 os) #[.int .i64 0, .int .i64 0, .agg #[.slice none 0 0, .slice none 0 0]] 8 rfl (World.shaped_of_RefB (by kernel_rfl) (by kernel_rfl)) (by kernel_rfl) (by kernel_rfl) (by kernel_rfl) (door_met os _)) ?_
  intro W base args ds gs before hval0 hW _ _ hL _
  have hval : ∀ (j : Nat) t v, Tryz.f3.params[j]? = some t → args[j]? = some v → Value.okWide Tryz.prog W .any base t v := hval0
  have hW' := hW
  obtain ⟨p, q, hA0, hV, rfl, hfz, hnd⟩ := hW
  have hA : DataW.TrodAll enc Tryz.prog W 0 (fun _ => true) true Tryz.f3.params.toList args.toList ds p := hA0
  rw [Tryz.params3] at hA hval
  have hA' := hA
  obtain ⟨v0, vs0, d0, ds0, p0, q0, hargs, rfl, rfl, h0, r0⟩ := trodAll_cons hA
  obtain ⟨v1, vs1, d1, ds1, p1, q1, rfl, rfl, rfl, h1, r1⟩ := trodAll_cons r0
  obtain ⟨v2, vs2, d2, ds2, p2, q2, rfl, rfl, rfl, h2, r2⟩ := trodAll_cons r1
  obtain ⟨rfl, rfl, rfl⟩ := trodAll_nil r2
  obtain rfl : args = #[v0, v1, v2] := by cases args; simp_all
  obtain ⟨rfl, rfl⟩ := trodVars_none hV
  obtain ⟨n0, rfl, rfl, rfl, w0⟩ := open_int Tryz.underlying3 (hval 0 3 v0 rfl rfl) h0
  obtain ⟨n1, rfl, rfl, rfl, w1⟩ := open_int Tryz.underlying3 (hval 1 3 v1 rfl rfl) h1
  obtain ⟨qa, sa, qn, qc, sn, sc, Q, S, rfl, hC⟩ := open_course15 (hval 2 24 v2 rfl rfl) h2
  have hG := of_laid hL
  clear hA0 hval0
  refine (law_any n0 n1 qa sa qn qc sn sc Q S W (bounds_i64 w0) (bounds_i64 w1) hG hC).mono fun e W' ⟨he, hg⟩ => ?_
  subst he
  exact ⟨_, rfl, post_below (pa := ([] ++ ([] ++ (p2 ++ [])))) (pv := []) hW' (fun _ _ _ => (trodAll_cons_mk (shut_bool Tryz.underlying4 _) trodAll_mk0)) (fun sp hsp => stay_all (by kernel_rfl) hg (by decide) hA' (fun x hx => hW'.lt x (List.mem_append_left _ hx)) (fun x hx => hsp x (List.mem_append_left _ hx))) (fun _ _ => rfl)
    hg (ok_one (by kernel_rfl) rfl (okWide_bool_mk Tryz.underlying4 _))⟩

theorem over : Rows.TopLinkSaid :=
  OpenClaim.holds_of_wide 3 Tryz.f3 rfl rfl rfl rfl rfl rfl rfl ⟨rfl, rfl, rfl, rfl, rfl⟩ rfl rfl rfl rfl rfl (by kernel_rfl) Tryz.func3 (by kernel_rfl)
    (of_decide_eq_true (by kernel_rfl)) (by unfold Func.isWrapper; first | (rw [if_pos (by decide +kernel)]; kernel_rfl) | (rw [if_neg (by decide +kernel)]; exact ⟨rfl, rfl⟩))
    (fun os started H enc _ => lifted os started H enc)

theorem proved : Rows.TopLinkCardSaid :=
  Claim7.holds_tied_plain_at .later [] [.widerDeep, .data] true (true, "980fe136e134d2d5221955d1a99cdd758e0cdf11b510fbdb27be9fc6d3c285a4") false
    over (fun _ h => by cases h) (by kernel_rfl) (fun _ h => by cases h) topLink_row_tie rfl ⟨rfl, rfl⟩ (by kernel_rfl) rfl
    (fun f fn hf hfn => by
      obtain rfl : f = 3 := Option.some.inj ((show Tryz.prog.funcNamed "perigee/perigeetop.TopLink" = some 3 by kernel_rfl).symm.trans hf) |>.symm
      obtain rfl : fn = Tryz.f3 := (Option.some.inj (Tryz.func3.symm.trans hfn)).symm
      exact ⟨by kernel_rfl, fun j t ht => by
        rw [Tryz.params3] at ht
        have hm : t ∈ [3, 3, 24] := by simpa using Array.mem_of_getElem? ht
        have hall : ([3, 3, 24].all fun u => !Tryz.prog.wantsStandIn u) = true := by kernel_rfl
        exact (show Tryz.prog.wantsStandIn t = false by simpa using List.all_eq_true.1 hall t hm)⟩)
    (by kernel_rfl)
#print axioms proved
end Go.Proofs.YtgopighmifpefaaGreatDoor.topLink
