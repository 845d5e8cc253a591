/-
  No cell of these rows narrows 'for every input' (looked for: loops, veiled, ifaces, maps, wideKeys, modest, calm, conditions, laid).
  DERIVED. THE GIVEN ROWS OF THIS SEAT. 4 by the template 'for every input the law returns true; each argument reads behind the call as it read before'; 0 by the template 'total and deterministic' (their statements: YtbnddnoognoekaaTotals.lean).
  GIVEN WITH THE SEED: the statements are not yours to turn. If you find one false, say at which input.
  Laid BY PROGRAM, IN A SANDBOX (cutbox-rows.mjs): the forced cells as the released guide's own fill.sh prints them over the translation 8318c424f83a3e8a… (all of the seat's roots in one cut). By AI agents, Wed Nov 11 2026. No macro, syntax, notation, axiom, sorry.
-/
import Derived.Test.YtbnddnoognoekaaChecked
import GoSem.Claim
import GoSem.ClaimJoined
import GoSem.ClaimMapViews
import Derived.JoinedTies
import Derived.KernelRfl
namespace Go.Proofs.Ytbnddnoognoekaa
/- THE CELL 'sum', in the pinned program and in every row, IS THE sha256 OF THE DUMP (.gsa) THAT YtbnddnoognoekaaProg.lean LOADS. Nothing in Lean hashes anything: it is a label: what it is worth is what the hold of that sum in a sandbox is worth. -/
noncomputable def Try.pinned : Pinned := { name := "ytbnddnoognoekaa", sum := "8318c424f83a3e8ac6136d3f83535c9b33e21db1f25ff0f979a2acf63fbbd754", checked := Try.checked }
namespace Rows
def none {H : Type} : Left H := { results := [], args := [] }

/-- 'millwrightlaw18.ScopeLabels': WHATEVER THE INPUT: true; the input reads as it did. -/
def scopeLabelsSpec : ChangeSpec := { name := "scopeLabels", fn := fun _ => fun
  | [d1, d2, d3] => { results := [.lit (.bool true)], args := [d1, d2, d3] }
  | _ => none }
def scopeLabelsRow : OpenClaim := { program := "ytbnddnoognoekaa", sum := "8318c424f83a3e8ac6136d3f83535c9b33e21db1f25ff0f979a2acf63fbbd754", func := "millwright/millwrightlaw18.ScopeLabels", spec := "scopeLabels", inPlace := ["math/bits.Add64"], apart := false }
def ScopeLabelsSaid : Prop := scopeLabelsRow.holds Try.pinned (OpenSpec.ofChange scopeLabelsSpec)

/-- ITS FALSE NEIGHBOUR: 'it returns false'. Refute it at one input. -/
def scopeLabelsWrong : ChangeSpec := { name := "scopeLabels", fn := fun _ => fun
  | [d1, d2, d3] => { results := [.lit (.bool false)], args := [d1, d2, d3] }
  | _ => none }
def ScopeLabelsWrongFalsely : Prop := scopeLabelsRow.holds Try.pinned (OpenSpec.ofChange scopeLabelsWrong)

/-- 'millwrightlaw18.ScopeFinds': WHATEVER THE INPUT: true; the input reads as it did. -/
def scopeFindsSpec : ChangeSpec := { name := "scopeFinds", fn := fun _ => fun
  | [d1, d2] => { results := [.lit (.bool true)], args := [d1, d2] }
  | _ => none }
def scopeFindsRow : OpenClaim := { program := "ytbnddnoognoekaa", sum := "8318c424f83a3e8ac6136d3f83535c9b33e21db1f25ff0f979a2acf63fbbd754", func := "millwright/millwrightlaw18.ScopeFinds", spec := "scopeFinds", inPlace := ["math/bits.Add64"], apart := false }
def ScopeFindsSaid : Prop := scopeFindsRow.holds Try.pinned (OpenSpec.ofChange scopeFindsSpec)

/-- ITS FALSE NEIGHBOUR: 'it returns false'. Refute it at one input. -/
def scopeFindsWrong : ChangeSpec := { name := "scopeFinds", fn := fun _ => fun
  | [d1, d2] => { results := [.lit (.bool false)], args := [d1, d2] }
  | _ => none }
def ScopeFindsWrongFalsely : Prop := scopeFindsRow.holds Try.pinned (OpenSpec.ofChange scopeFindsWrong)

/-- 'millwrightlaw18.ScopePlays': WHATEVER THE INPUT: true; the input reads as it did. -/
def scopePlaysSpec : ChangeSpec := { name := "scopePlays", fn := fun _ => fun
  | [d] => { results := [.lit (.bool true)], args := [d] }
  | _ => none }
def scopePlaysRow : OpenClaim := { program := "ytbnddnoognoekaa", sum := "8318c424f83a3e8ac6136d3f83535c9b33e21db1f25ff0f979a2acf63fbbd754", func := "millwright/millwrightlaw18.ScopePlays", spec := "scopePlays", inPlace := ["math/bits.Add64"], apart := false }
def ScopePlaysSaid : Prop := scopePlaysRow.holds Try.pinned (OpenSpec.ofChange scopePlaysSpec)

/-- ITS FALSE NEIGHBOUR: 'it returns false'. Refute it at one input. -/
def scopePlaysWrong : ChangeSpec := { name := "scopePlays", fn := fun _ => fun
  | [d] => { results := [.lit (.bool false)], args := [d] }
  | _ => none }
def ScopePlaysWrongFalsely : Prop := scopePlaysRow.holds Try.pinned (OpenSpec.ofChange scopePlaysWrong)

/-- 'millwrightlaw18.ScopeNone': WHATEVER THE INPUT: true; the input reads as it did. -/
def scopeNoneSpec : ChangeSpec := { name := "scopeNone", fn := fun _ => fun
  | [d1, d2] => { results := [.lit (.bool true)], args := [d1, d2] }
  | _ => none }
def scopeNoneRow : OpenClaim := { program := "ytbnddnoognoekaa", sum := "8318c424f83a3e8ac6136d3f83535c9b33e21db1f25ff0f979a2acf63fbbd754", func := "millwright/millwrightlaw18.ScopeNone", spec := "scopeNone", inPlace := ["math/bits.Add64"], apart := false }
def ScopeNoneSaid : Prop := scopeNoneRow.holds Try.pinned (OpenSpec.ofChange scopeNoneSpec)

/-- ITS FALSE NEIGHBOUR: 'it returns false'. Refute it at one input. -/
def scopeNoneWrong : ChangeSpec := { name := "scopeNone", fn := fun _ => fun
  | [d1, d2] => { results := [.lit (.bool false)], args := [d1, d2] }
  | _ => none }
def ScopeNoneWrongFalsely : Prop := scopeNoneRow.holds Try.pinned (OpenSpec.ofChange scopeNoneWrong)

/- THE SECOND FORM. 'bulk': how many values and letters a reading holds, each counted each time it is reached (what is shared counts as often as it is met; a slice's spare places count too). A statement '..UptoSaid' is the law's where the arguments, and the package variables that the reading takes, are together of bulk at most 1048576: NARROWER than '..Said'. Prove '..Said' where nothing that the law and all that it calls make is longer than what came in: it says more and counts as full. Else prove '..UptoSaid'. A law counts once. -/
mutual
def uptoBulk {H : Type} : DataW H → Nat
  | .lit (.string bytes) => bytes.length + 1
  | .lit _ => 1
  | .nil => 1
  | .ptr d => uptoBulk d + 1
  | .slice elems spare => uptoBulkAll elems + uptoBulkAll spare + 1
  | .agg parts => uptoBulkAll parts + 1
  | .iface _ d => uptoBulk d + 1
  | .map entries => uptoBulkEntries entries + 1
  | .held _ => 1
def uptoBulkAll {H : Type} : List (DataW H) → Nat
  | [] => 0
  | d :: r => uptoBulk d + uptoBulkAll r
def uptoBulkEntries {H : Type} : List (Lit × DataW H) → Nat
  | [] => 0
  | x :: r => uptoBulkEntry x + uptoBulkEntries r
def uptoBulkEntry {H : Type} : Lit × DataW H → Nat
  | (.string bytes, d) => bytes.length + uptoBulk d + 1
  | (_, d) => uptoBulk d + 1
 end
def uptoSmall : (H : Type) → List (DataW H) → Bool := fun _ ds => decide (uptoBulkAll ds ≤ 1048576)
def OpenSpec.upto (s : _root_.Go.ChangeSpec) : _root_.Go.OpenSpec := { _root_.Go.OpenSpec.ofChange s with cond := some uptoSmall }

/-- 'millwrightlaw18.ScopeLabels', WHERE WHAT IT READS IS OF BULK AT MOST 1048576: true; the input reads as it did. -/
def scopeLabelsUptoRow : OpenClaim := { program := "ytbnddnoognoekaa", sum := "8318c424f83a3e8ac6136d3f83535c9b33e21db1f25ff0f979a2acf63fbbd754", func := "millwright/millwrightlaw18.ScopeLabels", spec := "scopeLabels", inPlace := ["math/bits.Add64"], apart := false, narrowed := true }
def ScopeLabelsUptoSaid : Prop := scopeLabelsUptoRow.holds Try.pinned (OpenSpec.upto scopeLabelsSpec)

/-- 'millwrightlaw18.ScopeFinds', WHERE WHAT IT READS IS OF BULK AT MOST 1048576: true; the input reads as it did. -/
def scopeFindsUptoRow : OpenClaim := { program := "ytbnddnoognoekaa", sum := "8318c424f83a3e8ac6136d3f83535c9b33e21db1f25ff0f979a2acf63fbbd754", func := "millwright/millwrightlaw18.ScopeFinds", spec := "scopeFinds", inPlace := ["math/bits.Add64"], apart := false, narrowed := true }
def ScopeFindsUptoSaid : Prop := scopeFindsUptoRow.holds Try.pinned (OpenSpec.upto scopeFindsSpec)

/-- 'millwrightlaw18.ScopePlays', WHERE WHAT IT READS IS OF BULK AT MOST 1048576: true; the input reads as it did. -/
def scopePlaysUptoRow : OpenClaim := { program := "ytbnddnoognoekaa", sum := "8318c424f83a3e8ac6136d3f83535c9b33e21db1f25ff0f979a2acf63fbbd754", func := "millwright/millwrightlaw18.ScopePlays", spec := "scopePlays", inPlace := ["math/bits.Add64"], apart := false, narrowed := true }
def ScopePlaysUptoSaid : Prop := scopePlaysUptoRow.holds Try.pinned (OpenSpec.upto scopePlaysSpec)

/-- 'millwrightlaw18.ScopeNone', WHERE WHAT IT READS IS OF BULK AT MOST 1048576: true; the input reads as it did. -/
def scopeNoneUptoRow : OpenClaim := { program := "ytbnddnoognoekaa", sum := "8318c424f83a3e8ac6136d3f83535c9b33e21db1f25ff0f979a2acf63fbbd754", func := "millwright/millwrightlaw18.ScopeNone", spec := "scopeNone", inPlace := ["math/bits.Add64"], apart := false, narrowed := true }
def ScopeNoneUptoSaid : Prop := scopeNoneUptoRow.holds Try.pinned (OpenSpec.upto scopeNoneSpec)

end Rows
end Go.Proofs.Ytbnddnoognoekaa
