/-
  No cell of these rows narrows 'for every input' (looked for: loops, veiled, ifaces, maps, wideKeys, modest, calm, conditions, laid).
  DERIVED. THE GIVEN ROWS OF THIS SEAT. 5 by the template 'for every input the law returns true; each argument reads behind the call as it read before'; 0 by the template 'total and deterministic' (their statements: YtngdfcommoenkaaTotals.lean).
  GIVEN WITH THE SEED: the statements are not yours to turn. If you find one false, say at which input.
  Laid BY PROGRAM, IN A SANDBOX (cutbox-rows.mjs): the forced cells as the released guide's own fill.sh prints them over the translation 83eb8ff34b606de8… (all of the seat's roots in one cut). By AI agents, Wed Nov 11 2026. No macro, syntax, notation, axiom, sorry.
-/
import Derived.Test.YtngdfcommoenkaaChecked
import GoSem.Claim
import GoSem.ClaimJoined
import GoSem.ClaimMapViews
import Derived.JoinedTies
import Derived.KernelRfl
namespace Go.Proofs.Ytngdfcommoenkaa
/- THE CELL 'sum', in the pinned program and in every row, IS THE sha256 OF THE DUMP (.gsa) THAT YtngdfcommoenkaaProg.lean LOADS. Nothing in Lean hashes anything: it is a label: what it is worth is what the hold of that sum in a sandbox is worth. -/
noncomputable def Try.pinned : Pinned := { name := "ytngdfcommoenkaa", sum := "83eb8ff34b606de88fb9a7dd26be9688c75976c52ec43f6495fd68a381304b90", checked := Try.checked }
namespace Rows
def none {H : Type} : Left H := { results := [], args := [] }

/-- 'millwrightlaw15.TokenLexes': WHATEVER THE INPUT: true; the input reads as it did. -/
def tokenLexesSpec : ChangeSpec := { name := "tokenLexes", fn := fun _ => fun
  | [d] => { results := [.lit (.bool true)], args := [d] }
  | _ => none }
def tokenLexesRow : OpenClaim := { program := "ytngdfcommoenkaa", sum := "83eb8ff34b606de88fb9a7dd26be9688c75976c52ec43f6495fd68a381304b90", func := "millwright/millwrightlaw15.TokenLexes", spec := "tokenLexes", inPlace := ["internal/bytealg.IndexByteString"], apart := false }
def TokenLexesSaid : Prop := tokenLexesRow.holds Try.pinned (OpenSpec.ofChange tokenLexesSpec)

/-- ITS FALSE NEIGHBOUR: 'it returns false'. Refute it at one input. -/
def tokenLexesWrong : ChangeSpec := { name := "tokenLexes", fn := fun _ => fun
  | [d] => { results := [.lit (.bool false)], args := [d] }
  | _ => none }
def TokenLexesWrongFalsely : Prop := tokenLexesRow.holds Try.pinned (OpenSpec.ofChange tokenLexesWrong)

/-- 'millwrightlaw15.TokenBack': WHATEVER THE INPUT: true; the input reads as it did. -/
def tokenBackSpec : ChangeSpec := { name := "tokenBack", fn := fun _ => fun
  | [d] => { results := [.lit (.bool true)], args := [d] }
  | _ => none }
def tokenBackRow : OpenClaim := { program := "ytngdfcommoenkaa", sum := "83eb8ff34b606de88fb9a7dd26be9688c75976c52ec43f6495fd68a381304b90", func := "millwright/millwrightlaw15.TokenBack", spec := "tokenBack", inPlace := ["internal/bytealg.IndexByteString"], apart := false }
def TokenBackSaid : Prop := tokenBackRow.holds Try.pinned (OpenSpec.ofChange tokenBackSpec)

/-- ITS FALSE NEIGHBOUR: 'it returns false'. Refute it at one input. -/
def tokenBackWrong : ChangeSpec := { name := "tokenBack", fn := fun _ => fun
  | [d] => { results := [.lit (.bool false)], args := [d] }
  | _ => none }
def TokenBackWrongFalsely : Prop := tokenBackRow.holds Try.pinned (OpenSpec.ofChange tokenBackWrong)

/-- 'millwrightlaw15.TokenPlaces': WHATEVER THE INPUT: true; the input reads as it did. -/
def tokenPlacesSpec : ChangeSpec := { name := "tokenPlaces", fn := fun _ => fun
  | [d] => { results := [.lit (.bool true)], args := [d] }
  | _ => none }
def tokenPlacesRow : OpenClaim := { program := "ytngdfcommoenkaa", sum := "83eb8ff34b606de88fb9a7dd26be9688c75976c52ec43f6495fd68a381304b90", func := "millwright/millwrightlaw15.TokenPlaces", spec := "tokenPlaces", inPlace := ["internal/bytealg.IndexByteString"], apart := false }
def TokenPlacesSaid : Prop := tokenPlacesRow.holds Try.pinned (OpenSpec.ofChange tokenPlacesSpec)

/-- ITS FALSE NEIGHBOUR: 'it returns false'. Refute it at one input. -/
def tokenPlacesWrong : ChangeSpec := { name := "tokenPlaces", fn := fun _ => fun
  | [d] => { results := [.lit (.bool false)], args := [d] }
  | _ => none }
def TokenPlacesWrongFalsely : Prop := tokenPlacesRow.holds Try.pinned (OpenSpec.ofChange tokenPlacesWrong)

/-- 'millwrightlaw15.TokenCuts': WHATEVER THE INPUT: true; the input reads as it did. -/
def tokenCutsSpec : ChangeSpec := { name := "tokenCuts", fn := fun _ => fun
  | [d1, d2] => { results := [.lit (.bool true)], args := [d1, d2] }
  | _ => none }
def tokenCutsRow : OpenClaim := { program := "ytngdfcommoenkaa", sum := "83eb8ff34b606de88fb9a7dd26be9688c75976c52ec43f6495fd68a381304b90", func := "millwright/millwrightlaw15.TokenCuts", spec := "tokenCuts", inPlace := ["internal/bytealg.IndexByteString"], apart := false }
def TokenCutsSaid : Prop := tokenCutsRow.holds Try.pinned (OpenSpec.ofChange tokenCutsSpec)

/-- ITS FALSE NEIGHBOUR: 'it returns false'. Refute it at one input. -/
def tokenCutsWrong : ChangeSpec := { name := "tokenCuts", fn := fun _ => fun
  | [d1, d2] => { results := [.lit (.bool false)], args := [d1, d2] }
  | _ => none }
def TokenCutsWrongFalsely : Prop := tokenCutsRow.holds Try.pinned (OpenSpec.ofChange tokenCutsWrong)

/-- 'millwrightlaw15.TokenSpaces': WHATEVER THE INPUT: true; the input reads as it did. -/
def tokenSpacesSpec : ChangeSpec := { name := "tokenSpaces", fn := fun _ => fun
  | [d1, d2] => { results := [.lit (.bool true)], args := [d1, d2] }
  | _ => none }
def tokenSpacesRow : OpenClaim := { program := "ytngdfcommoenkaa", sum := "83eb8ff34b606de88fb9a7dd26be9688c75976c52ec43f6495fd68a381304b90", func := "millwright/millwrightlaw15.TokenSpaces", spec := "tokenSpaces", inPlace := ["internal/bytealg.IndexByteString"], apart := false }
def TokenSpacesSaid : Prop := tokenSpacesRow.holds Try.pinned (OpenSpec.ofChange tokenSpacesSpec)

/-- ITS FALSE NEIGHBOUR: 'it returns false'. Refute it at one input. -/
def tokenSpacesWrong : ChangeSpec := { name := "tokenSpaces", fn := fun _ => fun
  | [d1, d2] => { results := [.lit (.bool false)], args := [d1, d2] }
  | _ => none }
def TokenSpacesWrongFalsely : Prop := tokenSpacesRow.holds Try.pinned (OpenSpec.ofChange tokenSpacesWrong)

/- THE SECOND FORM. 'bulk': how many values and letters a reading holds, each counted each time it is reached (what is shared counts as often as it is met; a slice's spare places count too). A statement '..UptoSaid' is the law's where the arguments, and the package variables that the reading takes, are together of bulk at most 1048576: NARROWER than '..Said'. Prove '..Said' where nothing that the law and all that it calls make is longer than what came in: it says more and counts as full. Else prove '..UptoSaid'. A law counts once. -/
mutual
def uptoBulk {H : Type} : DataW H → Nat
  | .lit (.string bytes) => bytes.length + 1
  | .lit _ => 1
  | .nil => 1
  | .ptr d => uptoBulk d + 1
  | .slice elems spare => uptoBulkAll elems + uptoBulkAll spare + 1
  | .agg parts => uptoBulkAll parts + 1
  | .iface _ d => uptoBulk d + 1
  | .map entries => uptoBulkEntries entries + 1
  | .held _ => 1
def uptoBulkAll {H : Type} : List (DataW H) → Nat
  | [] => 0
  | d :: r => uptoBulk d + uptoBulkAll r
def uptoBulkEntries {H : Type} : List (Lit × DataW H) → Nat
  | [] => 0
  | x :: r => uptoBulkEntry x + uptoBulkEntries r
def uptoBulkEntry {H : Type} : Lit × DataW H → Nat
  | (.string bytes, d) => bytes.length + uptoBulk d + 1
  | (_, d) => uptoBulk d + 1
 end
def uptoSmall : (H : Type) → List (DataW H) → Bool := fun _ ds => decide (uptoBulkAll ds ≤ 1048576)
def OpenSpec.upto (s : _root_.Go.ChangeSpec) : _root_.Go.OpenSpec := { _root_.Go.OpenSpec.ofChange s with cond := some uptoSmall }

/-- 'millwrightlaw15.TokenLexes', WHERE WHAT IT READS IS OF BULK AT MOST 1048576: true; the input reads as it did. -/
def tokenLexesUptoRow : OpenClaim := { program := "ytngdfcommoenkaa", sum := "83eb8ff34b606de88fb9a7dd26be9688c75976c52ec43f6495fd68a381304b90", func := "millwright/millwrightlaw15.TokenLexes", spec := "tokenLexes", inPlace := ["internal/bytealg.IndexByteString"], apart := false, narrowed := true }
def TokenLexesUptoSaid : Prop := tokenLexesUptoRow.holds Try.pinned (OpenSpec.upto tokenLexesSpec)

/-- 'millwrightlaw15.TokenBack', WHERE WHAT IT READS IS OF BULK AT MOST 1048576: true; the input reads as it did. -/
def tokenBackUptoRow : OpenClaim := { program := "ytngdfcommoenkaa", sum := "83eb8ff34b606de88fb9a7dd26be9688c75976c52ec43f6495fd68a381304b90", func := "millwright/millwrightlaw15.TokenBack", spec := "tokenBack", inPlace := ["internal/bytealg.IndexByteString"], apart := false, narrowed := true }
def TokenBackUptoSaid : Prop := tokenBackUptoRow.holds Try.pinned (OpenSpec.upto tokenBackSpec)

/-- 'millwrightlaw15.TokenPlaces', WHERE WHAT IT READS IS OF BULK AT MOST 1048576: true; the input reads as it did. -/
def tokenPlacesUptoRow : OpenClaim := { program := "ytngdfcommoenkaa", sum := "83eb8ff34b606de88fb9a7dd26be9688c75976c52ec43f6495fd68a381304b90", func := "millwright/millwrightlaw15.TokenPlaces", spec := "tokenPlaces", inPlace := ["internal/bytealg.IndexByteString"], apart := false, narrowed := true }
def TokenPlacesUptoSaid : Prop := tokenPlacesUptoRow.holds Try.pinned (OpenSpec.upto tokenPlacesSpec)

/-- 'millwrightlaw15.TokenCuts', WHERE WHAT IT READS IS OF BULK AT MOST 1048576: true; the input reads as it did. -/
def tokenCutsUptoRow : OpenClaim := { program := "ytngdfcommoenkaa", sum := "83eb8ff34b606de88fb9a7dd26be9688c75976c52ec43f6495fd68a381304b90", func := "millwright/millwrightlaw15.TokenCuts", spec := "tokenCuts", inPlace := ["internal/bytealg.IndexByteString"], apart := false, narrowed := true }
def TokenCutsUptoSaid : Prop := tokenCutsUptoRow.holds Try.pinned (OpenSpec.upto tokenCutsSpec)

/-- 'millwrightlaw15.TokenSpaces', WHERE WHAT IT READS IS OF BULK AT MOST 1048576: true; the input reads as it did. -/
def tokenSpacesUptoRow : OpenClaim := { program := "ytngdfcommoenkaa", sum := "83eb8ff34b606de88fb9a7dd26be9688c75976c52ec43f6495fd68a381304b90", func := "millwright/millwrightlaw15.TokenSpaces", spec := "tokenSpaces", inPlace := ["internal/bytealg.IndexByteString"], apart := false, narrowed := true }
def TokenSpacesUptoSaid : Prop := tokenSpacesUptoRow.holds Try.pinned (OpenSpec.upto tokenSpacesSpec)

end Rows
end Go.Proofs.Ytngdfcommoenkaa
