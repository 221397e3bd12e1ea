/-
  No cell of these rows narrows 'for every input' (looked for: loops, veiled, ifaces, maps, wideKeys, modest, calm, conditions, laid).
  DERIVED. THE GIVEN ROWS OF THIS SEAT. 5 by the template 'for every input the law returns true; each argument reads behind the call as it read before'; 0 by the template 'total and deterministic' (their statements: YtincoocagfegfaaTotals.lean).
  GIVEN WITH THE SEED: the statements are not yours to turn. If you find one false, say at which input.
  Laid BY PROGRAM, IN A SANDBOX (cutbox-rows.mjs): the forced cells as the released guide's own fill.sh prints them over the translation 2bacb489f706cfb1… (all of the seat's roots in one cut). By AI agents, Wed Nov 11 2026. No macro, syntax, notation, axiom, sorry.
-/
import Derived.Test.YtincoocagfegfaaChecked
import GoSem.Claim
import GoSem.ClaimJoined
import GoSem.ClaimMapViews
import Derived.JoinedTies
import Derived.KernelRfl
namespace Go.Proofs.Ytincoocagfegfaa
/- THE CELL 'sum', in the pinned program and in every row, IS THE sha256 OF THE DUMP (.gsa) THAT YtincoocagfegfaaProg.lean LOADS. Nothing in Lean hashes anything: it is a label: what it is worth is what the hold of that sum in a sandbox is worth. -/
noncomputable def Try.pinned : Pinned := { name := "ytincoocagfegfaa", sum := "2bacb489f706cfb11da3eaf3a6336bf9f00097fce6557cf8c858f244e42b3b3f", checked := Try.checked }
namespace Rows
def none {H : Type} : Left H := { results := [], args := [] }

/-- 'perigeelaw17.AuthSeals': WHATEVER THE INPUT: true; the input reads as it did. -/
def authSealsSpec : ChangeSpec := { name := "authSeals", fn := fun _ => fun
  | [d1, d2] => { results := [.lit (.bool true)], args := [d1, d2] }
  | _ => none }
def authSealsRow : OpenClaim := { program := "ytincoocagfegfaa", sum := "2bacb489f706cfb11da3eaf3a6336bf9f00097fce6557cf8c858f244e42b3b3f", func := "perigee/perigeelaw17.AuthSeals", spec := "authSeals", unfollowed := true, recurses := true, apart := false }
def AuthSealsSaid : Prop := authSealsRow.holds Try.pinned (OpenSpec.ofChange authSealsSpec)

/-- ITS FALSE NEIGHBOUR: 'it returns false'. Refute it at one input. -/
def authSealsWrong : ChangeSpec := { name := "authSeals", fn := fun _ => fun
  | [d1, d2] => { results := [.lit (.bool false)], args := [d1, d2] }
  | _ => none }
def AuthSealsWrongFalsely : Prop := authSealsRow.holds Try.pinned (OpenSpec.ofChange authSealsWrong)

/-- 'perigeelaw17.AuthRestores': WHATEVER THE INPUT: true; the input reads as it did. -/
def authRestoresSpec : ChangeSpec := { name := "authRestores", fn := fun _ => fun
  | [d] => { results := [.lit (.bool true)], args := [d] }
  | _ => none }
def authRestoresRow : OpenClaim := { program := "ytincoocagfegfaa", sum := "2bacb489f706cfb11da3eaf3a6336bf9f00097fce6557cf8c858f244e42b3b3f", func := "perigee/perigeelaw17.AuthRestores", spec := "authRestores", unfollowed := true, recurses := true, apart := false }
def AuthRestoresSaid : Prop := authRestoresRow.holds Try.pinned (OpenSpec.ofChange authRestoresSpec)

/-- ITS FALSE NEIGHBOUR: 'it returns false'. Refute it at one input. -/
def authRestoresWrong : ChangeSpec := { name := "authRestores", fn := fun _ => fun
  | [d] => { results := [.lit (.bool false)], args := [d] }
  | _ => none }
def AuthRestoresWrongFalsely : Prop := authRestoresRow.holds Try.pinned (OpenSpec.ofChange authRestoresWrong)

/-- 'perigeelaw17.AuthNone': WHATEVER THE INPUT: true; the input reads as it did. -/
def authNoneSpec : ChangeSpec := { name := "authNone", fn := fun _ => fun
  | [d1, d2] => { results := [.lit (.bool true)], args := [d1, d2] }
  | _ => none }
def authNoneRow : OpenClaim := { program := "ytincoocagfegfaa", sum := "2bacb489f706cfb11da3eaf3a6336bf9f00097fce6557cf8c858f244e42b3b3f", func := "perigee/perigeelaw17.AuthNone", spec := "authNone", unfollowed := true, recurses := true, apart := false }
def AuthNoneSaid : Prop := authNoneRow.holds Try.pinned (OpenSpec.ofChange authNoneSpec)

/-- ITS FALSE NEIGHBOUR: 'it returns false'. Refute it at one input. -/
def authNoneWrong : ChangeSpec := { name := "authNone", fn := fun _ => fun
  | [d1, d2] => { results := [.lit (.bool false)], args := [d1, d2] }
  | _ => none }
def AuthNoneWrongFalsely : Prop := authNoneRow.holds Try.pinned (OpenSpec.ofChange authNoneWrong)

/-- 'perigeelaw17.AuthBack': WHATEVER THE INPUT: true; the input reads as it did. -/
def authBackSpec : ChangeSpec := { name := "authBack", fn := fun _ => fun
  | [d1, d2, d3] => { results := [.lit (.bool true)], args := [d1, d2, d3] }
  | _ => none }
def authBackRow : OpenClaim := { program := "ytincoocagfegfaa", sum := "2bacb489f706cfb11da3eaf3a6336bf9f00097fce6557cf8c858f244e42b3b3f", func := "perigee/perigeelaw17.AuthBack", spec := "authBack", unfollowed := true, recurses := true, apart := false }
def AuthBackSaid : Prop := authBackRow.holds Try.pinned (OpenSpec.ofChange authBackSpec)

/-- ITS FALSE NEIGHBOUR: 'it returns false'. Refute it at one input. -/
def authBackWrong : ChangeSpec := { name := "authBack", fn := fun _ => fun
  | [d1, d2, d3] => { results := [.lit (.bool false)], args := [d1, d2, d3] }
  | _ => none }
def AuthBackWrongFalsely : Prop := authBackRow.holds Try.pinned (OpenSpec.ofChange authBackWrong)

/-- 'perigeelaw17.AuthOnce': WHATEVER THE INPUT: true; the input reads as it did. -/
def authOnceSpec : ChangeSpec := { name := "authOnce", fn := fun _ => fun
  | [d1, d2, d3] => { results := [.lit (.bool true)], args := [d1, d2, d3] }
  | _ => none }
def authOnceRow : OpenClaim := { program := "ytincoocagfegfaa", sum := "2bacb489f706cfb11da3eaf3a6336bf9f00097fce6557cf8c858f244e42b3b3f", func := "perigee/perigeelaw17.AuthOnce", spec := "authOnce", unfollowed := true, recurses := true, apart := false }
def AuthOnceSaid : Prop := authOnceRow.holds Try.pinned (OpenSpec.ofChange authOnceSpec)

/-- ITS FALSE NEIGHBOUR: 'it returns false'. Refute it at one input. -/
def authOnceWrong : ChangeSpec := { name := "authOnce", fn := fun _ => fun
  | [d1, d2, d3] => { results := [.lit (.bool false)], args := [d1, d2, d3] }
  | _ => none }
def AuthOnceWrongFalsely : Prop := authOnceRow.holds Try.pinned (OpenSpec.ofChange authOnceWrong)

/- THE SECOND FORM. 'bulk': how many values and letters a reading holds, each counted each time it is reached (what is shared counts as often as it is met; a slice's spare places count too). A statement '..UptoSaid' is the law's where the arguments, and the package variables that the reading takes, are together of bulk at most 1048576: NARROWER than '..Said'. Prove '..Said' where nothing that the law and all that it calls make is longer than what came in: it says more and counts as full. Else prove '..UptoSaid'. A law counts once. -/
mutual
def uptoBulk {H : Type} : DataW H → Nat
  | .lit (.string bytes) => bytes.length + 1
  | .lit _ => 1
  | .nil => 1
  | .ptr d => uptoBulk d + 1
  | .slice elems spare => uptoBulkAll elems + uptoBulkAll spare + 1
  | .agg parts => uptoBulkAll parts + 1
  | .iface _ d => uptoBulk d + 1
  | .map entries => uptoBulkEntries entries + 1
  | .held _ => 1
def uptoBulkAll {H : Type} : List (DataW H) → Nat
  | [] => 0
  | d :: r => uptoBulk d + uptoBulkAll r
def uptoBulkEntries {H : Type} : List (Lit × DataW H) → Nat
  | [] => 0
  | x :: r => uptoBulkEntry x + uptoBulkEntries r
def uptoBulkEntry {H : Type} : Lit × DataW H → Nat
  | (.string bytes, d) => bytes.length + uptoBulk d + 1
  | (_, d) => uptoBulk d + 1
 end
def uptoSmall : (H : Type) → List (DataW H) → Bool := fun _ ds => decide (uptoBulkAll ds ≤ 1048576)
def OpenSpec.upto (s : _root_.Go.ChangeSpec) : _root_.Go.OpenSpec := { _root_.Go.OpenSpec.ofChange s with cond := some uptoSmall }

/-- 'perigeelaw17.AuthSeals', WHERE WHAT IT READS IS OF BULK AT MOST 1048576: true; the input reads as it did. -/
def authSealsUptoRow : OpenClaim := { program := "ytincoocagfegfaa", sum := "2bacb489f706cfb11da3eaf3a6336bf9f00097fce6557cf8c858f244e42b3b3f", func := "perigee/perigeelaw17.AuthSeals", spec := "authSeals", unfollowed := true, recurses := true, apart := false, narrowed := true }
def AuthSealsUptoSaid : Prop := authSealsUptoRow.holds Try.pinned (OpenSpec.upto authSealsSpec)

/-- 'perigeelaw17.AuthRestores', WHERE WHAT IT READS IS OF BULK AT MOST 1048576: true; the input reads as it did. -/
def authRestoresUptoRow : OpenClaim := { program := "ytincoocagfegfaa", sum := "2bacb489f706cfb11da3eaf3a6336bf9f00097fce6557cf8c858f244e42b3b3f", func := "perigee/perigeelaw17.AuthRestores", spec := "authRestores", unfollowed := true, recurses := true, apart := false, narrowed := true }
def AuthRestoresUptoSaid : Prop := authRestoresUptoRow.holds Try.pinned (OpenSpec.upto authRestoresSpec)

/-- 'perigeelaw17.AuthNone', WHERE WHAT IT READS IS OF BULK AT MOST 1048576: true; the input reads as it did. -/
def authNoneUptoRow : OpenClaim := { program := "ytincoocagfegfaa", sum := "2bacb489f706cfb11da3eaf3a6336bf9f00097fce6557cf8c858f244e42b3b3f", func := "perigee/perigeelaw17.AuthNone", spec := "authNone", unfollowed := true, recurses := true, apart := false, narrowed := true }
def AuthNoneUptoSaid : Prop := authNoneUptoRow.holds Try.pinned (OpenSpec.upto authNoneSpec)

/-- 'perigeelaw17.AuthBack', WHERE WHAT IT READS IS OF BULK AT MOST 1048576: true; the input reads as it did. -/
def authBackUptoRow : OpenClaim := { program := "ytincoocagfegfaa", sum := "2bacb489f706cfb11da3eaf3a6336bf9f00097fce6557cf8c858f244e42b3b3f", func := "perigee/perigeelaw17.AuthBack", spec := "authBack", unfollowed := true, recurses := true, apart := false, narrowed := true }
def AuthBackUptoSaid : Prop := authBackUptoRow.holds Try.pinned (OpenSpec.upto authBackSpec)

/-- 'perigeelaw17.AuthOnce', WHERE WHAT IT READS IS OF BULK AT MOST 1048576: true; the input reads as it did. -/
def authOnceUptoRow : OpenClaim := { program := "ytincoocagfegfaa", sum := "2bacb489f706cfb11da3eaf3a6336bf9f00097fce6557cf8c858f244e42b3b3f", func := "perigee/perigeelaw17.AuthOnce", spec := "authOnce", unfollowed := true, recurses := true, apart := false, narrowed := true }
def AuthOnceUptoSaid : Prop := authOnceUptoRow.holds Try.pinned (OpenSpec.upto authOnceSpec)

end Rows
end Go.Proofs.Ytincoocagfegfaa
