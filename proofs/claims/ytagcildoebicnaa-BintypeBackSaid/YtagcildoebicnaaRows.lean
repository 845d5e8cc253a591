/-
  No cell of these rows narrows 'for every input' (looked for: loops, veiled, ifaces, maps, wideKeys, modest, calm, conditions, laid).
  DERIVED. THE GIVEN ROWS OF THIS SEAT. 8 by the template 'for every input the law returns true; each argument reads behind the call as it read before'; 0 by the template 'total and deterministic' (their statements: YtagcildoebicnaaTotals.lean).
  GIVEN WITH THE SEED: the statements are not yours to turn. If you find one false, say at which input.
  Laid BY PROGRAM, IN A SANDBOX (cutbox-rows.mjs): the forced cells as the released guide's own fill.sh prints them over the translation 2a6d551c26ffab5a… (all of the seat's roots in one cut). By AI agents, Wed Nov 11 2026. No macro, syntax, notation, axiom, sorry.
-/
import Derived.Test.YtagcildoebicnaaChecked
import GoSem.Claim
import GoSem.ClaimJoined
import GoSem.ClaimMapViews
import Derived.JoinedTies
import Derived.KernelRfl
namespace Go.Proofs.Ytagcildoebicnaa
/- THE CELL 'sum', in the pinned program and in every row, IS THE sha256 OF THE DUMP (.gsa) THAT YtagcildoebicnaaProg.lean LOADS. Nothing in Lean hashes anything: it is a label: what it is worth is what the hold of that sum in a sandbox is worth. -/
noncomputable def Try.pinned : Pinned := { name := "ytagcildoebicnaa", sum := "2a6d551c26ffab5a7c6ed510f6445e480f533d485912493f2ee8bb6a3630916d", checked := Try.checked }
namespace Rows
def none {H : Type} : Left H := { results := [], args := [] }

/-- 'millwrightlaw10.BintypeBlocks': WHATEVER THE INPUT: true; the input reads as it did. -/
def bintypeBlocksSpec : ChangeSpec := { name := "bintypeBlocks", fn := fun _ => fun
  | [d1, d2] => { results := [.lit (.bool true)], args := [d1, d2] }
  | _ => none }
def bintypeBlocksRow : OpenClaim := { program := "ytagcildoebicnaa", sum := "2a6d551c26ffab5a7c6ed510f6445e480f533d485912493f2ee8bb6a3630916d", func := "millwright/millwrightlaw10.BintypeBlocks", spec := "bintypeBlocks", unfollowed := true, recurses := true, apart := false }
def BintypeBlocksSaid : Prop := bintypeBlocksRow.holds Try.pinned (OpenSpec.ofChange bintypeBlocksSpec)

/-- ITS FALSE NEIGHBOUR: 'it returns false'. Refute it at one input. -/
def bintypeBlocksWrong : ChangeSpec := { name := "bintypeBlocks", fn := fun _ => fun
  | [d1, d2] => { results := [.lit (.bool false)], args := [d1, d2] }
  | _ => none }
def BintypeBlocksWrongFalsely : Prop := bintypeBlocksRow.holds Try.pinned (OpenSpec.ofChange bintypeBlocksWrong)

/-- 'millwrightlaw10.BintypeVals': WHATEVER THE INPUT: true; the input reads as it did. -/
def bintypeValsSpec : ChangeSpec := { name := "bintypeVals", fn := fun _ => fun
  | [d1, d2] => { results := [.lit (.bool true)], args := [d1, d2] }
  | _ => none }
def bintypeValsRow : OpenClaim := { program := "ytagcildoebicnaa", sum := "2a6d551c26ffab5a7c6ed510f6445e480f533d485912493f2ee8bb6a3630916d", func := "millwright/millwrightlaw10.BintypeVals", spec := "bintypeVals", unfollowed := true, recurses := true, apart := false }
def BintypeValsSaid : Prop := bintypeValsRow.holds Try.pinned (OpenSpec.ofChange bintypeValsSpec)

/-- ITS FALSE NEIGHBOUR: 'it returns false'. Refute it at one input. -/
def bintypeValsWrong : ChangeSpec := { name := "bintypeVals", fn := fun _ => fun
  | [d1, d2] => { results := [.lit (.bool false)], args := [d1, d2] }
  | _ => none }
def BintypeValsWrongFalsely : Prop := bintypeValsRow.holds Try.pinned (OpenSpec.ofChange bintypeValsWrong)

/-- 'millwrightlaw10.BintypeSizes': WHATEVER THE INPUT: true; the input reads as it did. -/
def bintypeSizesSpec : ChangeSpec := { name := "bintypeSizes", fn := fun _ => fun
  | [d1, d2, d3] => { results := [.lit (.bool true)], args := [d1, d2, d3] }
  | _ => none }
def bintypeSizesRow : OpenClaim := { program := "ytagcildoebicnaa", sum := "2a6d551c26ffab5a7c6ed510f6445e480f533d485912493f2ee8bb6a3630916d", func := "millwright/millwrightlaw10.BintypeSizes", spec := "bintypeSizes", unfollowed := true, recurses := true, apart := false }
def BintypeSizesSaid : Prop := bintypeSizesRow.holds Try.pinned (OpenSpec.ofChange bintypeSizesSpec)

/-- ITS FALSE NEIGHBOUR: 'it returns false'. Refute it at one input. -/
def bintypeSizesWrong : ChangeSpec := { name := "bintypeSizes", fn := fun _ => fun
  | [d1, d2, d3] => { results := [.lit (.bool false)], args := [d1, d2, d3] }
  | _ => none }
def BintypeSizesWrongFalsely : Prop := bintypeSizesRow.holds Try.pinned (OpenSpec.ofChange bintypeSizesWrong)

/-- 'millwrightlaw10.BintypeGlobals': WHATEVER THE INPUT: true; the input reads as it did. -/
def bintypeGlobalsSpec : ChangeSpec := { name := "bintypeGlobals", fn := fun _ => fun
  | [d1, d2] => { results := [.lit (.bool true)], args := [d1, d2] }
  | _ => none }
def bintypeGlobalsRow : OpenClaim := { program := "ytagcildoebicnaa", sum := "2a6d551c26ffab5a7c6ed510f6445e480f533d485912493f2ee8bb6a3630916d", func := "millwright/millwrightlaw10.BintypeGlobals", spec := "bintypeGlobals", unfollowed := true, recurses := true, apart := false }
def BintypeGlobalsSaid : Prop := bintypeGlobalsRow.holds Try.pinned (OpenSpec.ofChange bintypeGlobalsSpec)

/-- ITS FALSE NEIGHBOUR: 'it returns false'. Refute it at one input. -/
def bintypeGlobalsWrong : ChangeSpec := { name := "bintypeGlobals", fn := fun _ => fun
  | [d1, d2] => { results := [.lit (.bool false)], args := [d1, d2] }
  | _ => none }
def BintypeGlobalsWrongFalsely : Prop := bintypeGlobalsRow.holds Try.pinned (OpenSpec.ofChange bintypeGlobalsWrong)

/-- 'millwrightlaw10.BintypeFuncs': WHATEVER THE INPUT: true; the input reads as it did. -/
def bintypeFuncsSpec : ChangeSpec := { name := "bintypeFuncs", fn := fun _ => fun
  | [d1, d2] => { results := [.lit (.bool true)], args := [d1, d2] }
  | _ => none }
def bintypeFuncsRow : OpenClaim := { program := "ytagcildoebicnaa", sum := "2a6d551c26ffab5a7c6ed510f6445e480f533d485912493f2ee8bb6a3630916d", func := "millwright/millwrightlaw10.BintypeFuncs", spec := "bintypeFuncs", unfollowed := true, recurses := true, apart := false }
def BintypeFuncsSaid : Prop := bintypeFuncsRow.holds Try.pinned (OpenSpec.ofChange bintypeFuncsSpec)

/-- ITS FALSE NEIGHBOUR: 'it returns false'. Refute it at one input. -/
def bintypeFuncsWrong : ChangeSpec := { name := "bintypeFuncs", fn := fun _ => fun
  | [d1, d2] => { results := [.lit (.bool false)], args := [d1, d2] }
  | _ => none }
def BintypeFuncsWrongFalsely : Prop := bintypeFuncsRow.holds Try.pinned (OpenSpec.ofChange bintypeFuncsWrong)

/-- 'millwrightlaw10.BintypeRight': WHATEVER THE INPUT: true; the input reads as it did. -/
def bintypeRightSpec : ChangeSpec := { name := "bintypeRight", fn := fun _ => fun
  | [d] => { results := [.lit (.bool true)], args := [d] }
  | _ => none }
def bintypeRightRow : OpenClaim := { program := "ytagcildoebicnaa", sum := "2a6d551c26ffab5a7c6ed510f6445e480f533d485912493f2ee8bb6a3630916d", func := "millwright/millwrightlaw10.BintypeRight", spec := "bintypeRight", unfollowed := true, recurses := true, apart := false }
def BintypeRightSaid : Prop := bintypeRightRow.holds Try.pinned (OpenSpec.ofChange bintypeRightSpec)

/-- ITS FALSE NEIGHBOUR: 'it returns false'. Refute it at one input. -/
def bintypeRightWrong : ChangeSpec := { name := "bintypeRight", fn := fun _ => fun
  | [d] => { results := [.lit (.bool false)], args := [d] }
  | _ => none }
def BintypeRightWrongFalsely : Prop := bintypeRightRow.holds Try.pinned (OpenSpec.ofChange bintypeRightWrong)

/-- 'millwrightlaw10.BintypeBack': WHATEVER THE INPUT: true; the input reads as it did. -/
def bintypeBackSpec : ChangeSpec := { name := "bintypeBack", fn := fun _ => fun
  | [d] => { results := [.lit (.bool true)], args := [d] }
  | _ => none }
def bintypeBackRow : OpenClaim := { program := "ytagcildoebicnaa", sum := "2a6d551c26ffab5a7c6ed510f6445e480f533d485912493f2ee8bb6a3630916d", func := "millwright/millwrightlaw10.BintypeBack", spec := "bintypeBack", unfollowed := true, recurses := true, apart := false }
def BintypeBackSaid : Prop := bintypeBackRow.holds Try.pinned (OpenSpec.ofChange bintypeBackSpec)

/-- ITS FALSE NEIGHBOUR: 'it returns false'. Refute it at one input. -/
def bintypeBackWrong : ChangeSpec := { name := "bintypeBack", fn := fun _ => fun
  | [d] => { results := [.lit (.bool false)], args := [d] }
  | _ => none }
def BintypeBackWrongFalsely : Prop := bintypeBackRow.holds Try.pinned (OpenSpec.ofChange bintypeBackWrong)

/-- 'millwrightlaw10.BintypeFails': WHATEVER THE INPUT: true; the input reads as it did. -/
def bintypeFailsSpec : ChangeSpec := { name := "bintypeFails", fn := fun _ => fun
  | [d1, d2, d3] => { results := [.lit (.bool true)], args := [d1, d2, d3] }
  | _ => none }
def bintypeFailsRow : OpenClaim := { program := "ytagcildoebicnaa", sum := "2a6d551c26ffab5a7c6ed510f6445e480f533d485912493f2ee8bb6a3630916d", func := "millwright/millwrightlaw10.BintypeFails", spec := "bintypeFails", unfollowed := true, recurses := true, apart := false }
def BintypeFailsSaid : Prop := bintypeFailsRow.holds Try.pinned (OpenSpec.ofChange bintypeFailsSpec)

/-- ITS FALSE NEIGHBOUR: 'it returns false'. Refute it at one input. -/
def bintypeFailsWrong : ChangeSpec := { name := "bintypeFails", fn := fun _ => fun
  | [d1, d2, d3] => { results := [.lit (.bool false)], args := [d1, d2, d3] }
  | _ => none }
def BintypeFailsWrongFalsely : Prop := bintypeFailsRow.holds Try.pinned (OpenSpec.ofChange bintypeFailsWrong)

/- THE SECOND FORM. 'bulk': how many values and letters a reading holds, each counted each time it is reached (what is shared counts as often as it is met; a slice's spare places count too). A statement '..UptoSaid' is the law's where the arguments, and the package variables that the reading takes, are together of bulk at most 1048576: NARROWER than '..Said'. Prove '..Said' where nothing that the law and all that it calls make is longer than what came in: it says more and counts as full. Else prove '..UptoSaid'. A law counts once. -/
mutual
def uptoBulk {H : Type} : DataW H → Nat
  | .lit (.string bytes) => bytes.length + 1
  | .lit _ => 1
  | .nil => 1
  | .ptr d => uptoBulk d + 1
  | .slice elems spare => uptoBulkAll elems + uptoBulkAll spare + 1
  | .agg parts => uptoBulkAll parts + 1
  | .iface _ d => uptoBulk d + 1
  | .map entries => uptoBulkEntries entries + 1
  | .held _ => 1
def uptoBulkAll {H : Type} : List (DataW H) → Nat
  | [] => 0
  | d :: r => uptoBulk d + uptoBulkAll r
def uptoBulkEntries {H : Type} : List (Lit × DataW H) → Nat
  | [] => 0
  | x :: r => uptoBulkEntry x + uptoBulkEntries r
def uptoBulkEntry {H : Type} : Lit × DataW H → Nat
  | (.string bytes, d) => bytes.length + uptoBulk d + 1
  | (_, d) => uptoBulk d + 1
 end
def uptoSmall : (H : Type) → List (DataW H) → Bool := fun _ ds => decide (uptoBulkAll ds ≤ 1048576)
def OpenSpec.upto (s : _root_.Go.ChangeSpec) : _root_.Go.OpenSpec := { _root_.Go.OpenSpec.ofChange s with cond := some uptoSmall }

/-- 'millwrightlaw10.BintypeBlocks', WHERE WHAT IT READS IS OF BULK AT MOST 1048576: true; the input reads as it did. -/
def bintypeBlocksUptoRow : OpenClaim := { program := "ytagcildoebicnaa", sum := "2a6d551c26ffab5a7c6ed510f6445e480f533d485912493f2ee8bb6a3630916d", func := "millwright/millwrightlaw10.BintypeBlocks", spec := "bintypeBlocks", unfollowed := true, recurses := true, apart := false, narrowed := true }
def BintypeBlocksUptoSaid : Prop := bintypeBlocksUptoRow.holds Try.pinned (OpenSpec.upto bintypeBlocksSpec)

/-- 'millwrightlaw10.BintypeVals', WHERE WHAT IT READS IS OF BULK AT MOST 1048576: true; the input reads as it did. -/
def bintypeValsUptoRow : OpenClaim := { program := "ytagcildoebicnaa", sum := "2a6d551c26ffab5a7c6ed510f6445e480f533d485912493f2ee8bb6a3630916d", func := "millwright/millwrightlaw10.BintypeVals", spec := "bintypeVals", unfollowed := true, recurses := true, apart := false, narrowed := true }
def BintypeValsUptoSaid : Prop := bintypeValsUptoRow.holds Try.pinned (OpenSpec.upto bintypeValsSpec)

/-- 'millwrightlaw10.BintypeSizes', WHERE WHAT IT READS IS OF BULK AT MOST 1048576: true; the input reads as it did. -/
def bintypeSizesUptoRow : OpenClaim := { program := "ytagcildoebicnaa", sum := "2a6d551c26ffab5a7c6ed510f6445e480f533d485912493f2ee8bb6a3630916d", func := "millwright/millwrightlaw10.BintypeSizes", spec := "bintypeSizes", unfollowed := true, recurses := true, apart := false, narrowed := true }
def BintypeSizesUptoSaid : Prop := bintypeSizesUptoRow.holds Try.pinned (OpenSpec.upto bintypeSizesSpec)

/-- 'millwrightlaw10.BintypeGlobals', WHERE WHAT IT READS IS OF BULK AT MOST 1048576: true; the input reads as it did. -/
def bintypeGlobalsUptoRow : OpenClaim := { program := "ytagcildoebicnaa", sum := "2a6d551c26ffab5a7c6ed510f6445e480f533d485912493f2ee8bb6a3630916d", func := "millwright/millwrightlaw10.BintypeGlobals", spec := "bintypeGlobals", unfollowed := true, recurses := true, apart := false, narrowed := true }
def BintypeGlobalsUptoSaid : Prop := bintypeGlobalsUptoRow.holds Try.pinned (OpenSpec.upto bintypeGlobalsSpec)

/-- 'millwrightlaw10.BintypeFuncs', WHERE WHAT IT READS IS OF BULK AT MOST 1048576: true; the input reads as it did. -/
def bintypeFuncsUptoRow : OpenClaim := { program := "ytagcildoebicnaa", sum := "2a6d551c26ffab5a7c6ed510f6445e480f533d485912493f2ee8bb6a3630916d", func := "millwright/millwrightlaw10.BintypeFuncs", spec := "bintypeFuncs", unfollowed := true, recurses := true, apart := false, narrowed := true }
def BintypeFuncsUptoSaid : Prop := bintypeFuncsUptoRow.holds Try.pinned (OpenSpec.upto bintypeFuncsSpec)

/-- 'millwrightlaw10.BintypeRight', WHERE WHAT IT READS IS OF BULK AT MOST 1048576: true; the input reads as it did. -/
def bintypeRightUptoRow : OpenClaim := { program := "ytagcildoebicnaa", sum := "2a6d551c26ffab5a7c6ed510f6445e480f533d485912493f2ee8bb6a3630916d", func := "millwright/millwrightlaw10.BintypeRight", spec := "bintypeRight", unfollowed := true, recurses := true, apart := false, narrowed := true }
def BintypeRightUptoSaid : Prop := bintypeRightUptoRow.holds Try.pinned (OpenSpec.upto bintypeRightSpec)

/-- 'millwrightlaw10.BintypeBack', WHERE WHAT IT READS IS OF BULK AT MOST 1048576: true; the input reads as it did. -/
def bintypeBackUptoRow : OpenClaim := { program := "ytagcildoebicnaa", sum := "2a6d551c26ffab5a7c6ed510f6445e480f533d485912493f2ee8bb6a3630916d", func := "millwright/millwrightlaw10.BintypeBack", spec := "bintypeBack", unfollowed := true, recurses := true, apart := false, narrowed := true }
def BintypeBackUptoSaid : Prop := bintypeBackUptoRow.holds Try.pinned (OpenSpec.upto bintypeBackSpec)

/-- 'millwrightlaw10.BintypeFails', WHERE WHAT IT READS IS OF BULK AT MOST 1048576: true; the input reads as it did. -/
def bintypeFailsUptoRow : OpenClaim := { program := "ytagcildoebicnaa", sum := "2a6d551c26ffab5a7c6ed510f6445e480f533d485912493f2ee8bb6a3630916d", func := "millwright/millwrightlaw10.BintypeFails", spec := "bintypeFails", unfollowed := true, recurses := true, apart := false, narrowed := true }
def BintypeFailsUptoSaid : Prop := bintypeFailsUptoRow.holds Try.pinned (OpenSpec.upto bintypeFailsSpec)

end Rows
end Go.Proofs.Ytagcildoebicnaa
