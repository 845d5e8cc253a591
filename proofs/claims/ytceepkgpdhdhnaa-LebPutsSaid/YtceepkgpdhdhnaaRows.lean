/-
  No cell of these rows narrows 'for every input' (looked for: loops, veiled, ifaces, maps, wideKeys, modest, calm, conditions, laid).
  DERIVED. THE GIVEN ROWS OF THIS SEAT. 6 by the template 'for every input the law returns true; each argument reads behind the call as it read before'; 0 by the template 'total and deterministic' (their statements: YtceepkgpdhdhnaaTotals.lean).
  GIVEN WITH THE SEED: the statements are not yours to turn. If you find one false, say at which input.
  Laid BY PROGRAM, IN A SANDBOX (cutbox-rows.mjs): the forced cells as the released guide's own fill.sh prints them over the translation 6439cf842c8e7a8d… (all of the seat's roots in one cut). By AI agents, Wed Nov 11 2026. No macro, syntax, notation, axiom, sorry.
-/
import Derived.Test.YtceepkgpdhdhnaaChecked
import GoSem.Claim
import GoSem.ClaimJoined
import GoSem.ClaimMapViews
import Derived.JoinedTies
import Derived.KernelRfl
namespace Go.Proofs.Ytceepkgpdhdhnaa
/- THE CELL 'sum', in the pinned program and in every row, IS THE sha256 OF THE DUMP (.gsa) THAT YtceepkgpdhdhnaaProg.lean LOADS. Nothing in Lean hashes anything: it is a label: what it is worth is what the hold of that sum in a sandbox is worth. -/
noncomputable def Try.pinned : Pinned := { name := "ytceepkgpdhdhnaa", sum := "6439cf842c8e7a8d6533688dedfc8e0a179a41f3978fc5170fb2ca6ba8f43ee5", checked := Try.checked }
namespace Rows
def none {H : Type} : Left H := { results := [], args := [] }

/-- 'millwrightlaw01.LebPuts': WHATEVER THE INPUT: true; the input reads as it did. -/
def lebPutsSpec : ChangeSpec := { name := "lebPuts", fn := fun _ => fun
  | [d1, d2, d3] => { results := [.lit (.bool true)], args := [d1, d2, d3] }
  | _ => none }
def lebPutsRow : OpenClaim := { program := "ytceepkgpdhdhnaa", sum := "6439cf842c8e7a8d6533688dedfc8e0a179a41f3978fc5170fb2ca6ba8f43ee5", func := "millwright/millwrightlaw01.LebPuts", spec := "lebPuts", apart := false }
def LebPutsSaid : Prop := lebPutsRow.holds Try.pinned (OpenSpec.ofChange lebPutsSpec)

/-- ITS FALSE NEIGHBOUR: 'it returns false'. Refute it at one input. -/
def lebPutsWrong : ChangeSpec := { name := "lebPuts", fn := fun _ => fun
  | [d1, d2, d3] => { results := [.lit (.bool false)], args := [d1, d2, d3] }
  | _ => none }
def LebPutsWrongFalsely : Prop := lebPutsRow.holds Try.pinned (OpenSpec.ofChange lebPutsWrong)

/-- 'millwrightlaw01.LebSigned': WHATEVER THE INPUT: true; the input reads as it did. -/
def lebSignedSpec : ChangeSpec := { name := "lebSigned", fn := fun _ => fun
  | [d1, d2, d3] => { results := [.lit (.bool true)], args := [d1, d2, d3] }
  | _ => none }
def lebSignedRow : OpenClaim := { program := "ytceepkgpdhdhnaa", sum := "6439cf842c8e7a8d6533688dedfc8e0a179a41f3978fc5170fb2ca6ba8f43ee5", func := "millwright/millwrightlaw01.LebSigned", spec := "lebSigned", apart := false }
def LebSignedSaid : Prop := lebSignedRow.holds Try.pinned (OpenSpec.ofChange lebSignedSpec)

/-- ITS FALSE NEIGHBOUR: 'it returns false'. Refute it at one input. -/
def lebSignedWrong : ChangeSpec := { name := "lebSigned", fn := fun _ => fun
  | [d1, d2, d3] => { results := [.lit (.bool false)], args := [d1, d2, d3] }
  | _ => none }
def LebSignedWrongFalsely : Prop := lebSignedRow.holds Try.pinned (OpenSpec.ofChange lebSignedWrong)

/-- 'millwrightlaw01.LebReads': WHATEVER THE INPUT: true; the input reads as it did. -/
def lebReadsSpec : ChangeSpec := { name := "lebReads", fn := fun _ => fun
  | [d1, d2] => { results := [.lit (.bool true)], args := [d1, d2] }
  | _ => none }
def lebReadsRow : OpenClaim := { program := "ytceepkgpdhdhnaa", sum := "6439cf842c8e7a8d6533688dedfc8e0a179a41f3978fc5170fb2ca6ba8f43ee5", func := "millwright/millwrightlaw01.LebReads", spec := "lebReads", apart := false }
def LebReadsSaid : Prop := lebReadsRow.holds Try.pinned (OpenSpec.ofChange lebReadsSpec)

/-- ITS FALSE NEIGHBOUR: 'it returns false'. Refute it at one input. -/
def lebReadsWrong : ChangeSpec := { name := "lebReads", fn := fun _ => fun
  | [d1, d2] => { results := [.lit (.bool false)], args := [d1, d2] }
  | _ => none }
def LebReadsWrongFalsely : Prop := lebReadsRow.holds Try.pinned (OpenSpec.ofChange lebReadsWrong)

/-- 'millwrightlaw01.LebBack': WHATEVER THE INPUT: true; the input reads as it did. -/
def lebBackSpec : ChangeSpec := { name := "lebBack", fn := fun _ => fun
  | [d1, d2, d3] => { results := [.lit (.bool true)], args := [d1, d2, d3] }
  | _ => none }
def lebBackRow : OpenClaim := { program := "ytceepkgpdhdhnaa", sum := "6439cf842c8e7a8d6533688dedfc8e0a179a41f3978fc5170fb2ca6ba8f43ee5", func := "millwright/millwrightlaw01.LebBack", spec := "lebBack", apart := false }
def LebBackSaid : Prop := lebBackRow.holds Try.pinned (OpenSpec.ofChange lebBackSpec)

/-- ITS FALSE NEIGHBOUR: 'it returns false'. Refute it at one input. -/
def lebBackWrong : ChangeSpec := { name := "lebBack", fn := fun _ => fun
  | [d1, d2, d3] => { results := [.lit (.bool false)], args := [d1, d2, d3] }
  | _ => none }
def LebBackWrongFalsely : Prop := lebBackRow.holds Try.pinned (OpenSpec.ofChange lebBackWrong)

/-- 'millwrightlaw01.LebLonger': WHATEVER THE INPUT: true; the input reads as it did. -/
def lebLongerSpec : ChangeSpec := { name := "lebLonger", fn := fun _ => fun
  | [d1, d2] => { results := [.lit (.bool true)], args := [d1, d2] }
  | _ => none }
def lebLongerRow : OpenClaim := { program := "ytceepkgpdhdhnaa", sum := "6439cf842c8e7a8d6533688dedfc8e0a179a41f3978fc5170fb2ca6ba8f43ee5", func := "millwright/millwrightlaw01.LebLonger", spec := "lebLonger", apart := false }
def LebLongerSaid : Prop := lebLongerRow.holds Try.pinned (OpenSpec.ofChange lebLongerSpec)

/-- ITS FALSE NEIGHBOUR: 'it returns false'. Refute it at one input. -/
def lebLongerWrong : ChangeSpec := { name := "lebLonger", fn := fun _ => fun
  | [d1, d2] => { results := [.lit (.bool false)], args := [d1, d2] }
  | _ => none }
def LebLongerWrongFalsely : Prop := lebLongerRow.holds Try.pinned (OpenSpec.ofChange lebLongerWrong)

/-- 'millwrightlaw01.LebShort': WHATEVER THE INPUT: true; the input reads as it did. -/
def lebShortSpec : ChangeSpec := { name := "lebShort", fn := fun _ => fun
  | [d1, d2] => { results := [.lit (.bool true)], args := [d1, d2] }
  | _ => none }
def lebShortRow : OpenClaim := { program := "ytceepkgpdhdhnaa", sum := "6439cf842c8e7a8d6533688dedfc8e0a179a41f3978fc5170fb2ca6ba8f43ee5", func := "millwright/millwrightlaw01.LebShort", spec := "lebShort", apart := false }
def LebShortSaid : Prop := lebShortRow.holds Try.pinned (OpenSpec.ofChange lebShortSpec)

/-- ITS FALSE NEIGHBOUR: 'it returns false'. Refute it at one input. -/
def lebShortWrong : ChangeSpec := { name := "lebShort", fn := fun _ => fun
  | [d1, d2] => { results := [.lit (.bool false)], args := [d1, d2] }
  | _ => none }
def LebShortWrongFalsely : Prop := lebShortRow.holds Try.pinned (OpenSpec.ofChange lebShortWrong)

/- THE SECOND FORM. 'bulk': how many values and letters a reading holds, each counted each time it is reached (what is shared counts as often as it is met; a slice's spare places count too). A statement '..UptoSaid' is the law's where the arguments, and the package variables that the reading takes, are together of bulk at most 1048576: NARROWER than '..Said'. Prove '..Said' where nothing that the law and all that it calls make is longer than what came in: it says more and counts as full. Else prove '..UptoSaid'. A law counts once. -/
mutual
def uptoBulk {H : Type} : DataW H → Nat
  | .lit (.string bytes) => bytes.length + 1
  | .lit _ => 1
  | .nil => 1
  | .ptr d => uptoBulk d + 1
  | .slice elems spare => uptoBulkAll elems + uptoBulkAll spare + 1
  | .agg parts => uptoBulkAll parts + 1
  | .iface _ d => uptoBulk d + 1
  | .map entries => uptoBulkEntries entries + 1
  | .held _ => 1
def uptoBulkAll {H : Type} : List (DataW H) → Nat
  | [] => 0
  | d :: r => uptoBulk d + uptoBulkAll r
def uptoBulkEntries {H : Type} : List (Lit × DataW H) → Nat
  | [] => 0
  | x :: r => uptoBulkEntry x + uptoBulkEntries r
def uptoBulkEntry {H : Type} : Lit × DataW H → Nat
  | (.string bytes, d) => bytes.length + uptoBulk d + 1
  | (_, d) => uptoBulk d + 1
 end
def uptoSmall : (H : Type) → List (DataW H) → Bool := fun _ ds => decide (uptoBulkAll ds ≤ 1048576)
def OpenSpec.upto (s : _root_.Go.ChangeSpec) : _root_.Go.OpenSpec := { _root_.Go.OpenSpec.ofChange s with cond := some uptoSmall }

/-- 'millwrightlaw01.LebPuts', WHERE WHAT IT READS IS OF BULK AT MOST 1048576: true; the input reads as it did. -/
def lebPutsUptoRow : OpenClaim := { program := "ytceepkgpdhdhnaa", sum := "6439cf842c8e7a8d6533688dedfc8e0a179a41f3978fc5170fb2ca6ba8f43ee5", func := "millwright/millwrightlaw01.LebPuts", spec := "lebPuts", apart := false, narrowed := true }
def LebPutsUptoSaid : Prop := lebPutsUptoRow.holds Try.pinned (OpenSpec.upto lebPutsSpec)

/-- 'millwrightlaw01.LebSigned', WHERE WHAT IT READS IS OF BULK AT MOST 1048576: true; the input reads as it did. -/
def lebSignedUptoRow : OpenClaim := { program := "ytceepkgpdhdhnaa", sum := "6439cf842c8e7a8d6533688dedfc8e0a179a41f3978fc5170fb2ca6ba8f43ee5", func := "millwright/millwrightlaw01.LebSigned", spec := "lebSigned", apart := false, narrowed := true }
def LebSignedUptoSaid : Prop := lebSignedUptoRow.holds Try.pinned (OpenSpec.upto lebSignedSpec)

/-- 'millwrightlaw01.LebReads', WHERE WHAT IT READS IS OF BULK AT MOST 1048576: true; the input reads as it did. -/
def lebReadsUptoRow : OpenClaim := { program := "ytceepkgpdhdhnaa", sum := "6439cf842c8e7a8d6533688dedfc8e0a179a41f3978fc5170fb2ca6ba8f43ee5", func := "millwright/millwrightlaw01.LebReads", spec := "lebReads", apart := false, narrowed := true }
def LebReadsUptoSaid : Prop := lebReadsUptoRow.holds Try.pinned (OpenSpec.upto lebReadsSpec)

/-- 'millwrightlaw01.LebBack', WHERE WHAT IT READS IS OF BULK AT MOST 1048576: true; the input reads as it did. -/
def lebBackUptoRow : OpenClaim := { program := "ytceepkgpdhdhnaa", sum := "6439cf842c8e7a8d6533688dedfc8e0a179a41f3978fc5170fb2ca6ba8f43ee5", func := "millwright/millwrightlaw01.LebBack", spec := "lebBack", apart := false, narrowed := true }
def LebBackUptoSaid : Prop := lebBackUptoRow.holds Try.pinned (OpenSpec.upto lebBackSpec)

/-- 'millwrightlaw01.LebLonger', WHERE WHAT IT READS IS OF BULK AT MOST 1048576: true; the input reads as it did. -/
def lebLongerUptoRow : OpenClaim := { program := "ytceepkgpdhdhnaa", sum := "6439cf842c8e7a8d6533688dedfc8e0a179a41f3978fc5170fb2ca6ba8f43ee5", func := "millwright/millwrightlaw01.LebLonger", spec := "lebLonger", apart := false, narrowed := true }
def LebLongerUptoSaid : Prop := lebLongerUptoRow.holds Try.pinned (OpenSpec.upto lebLongerSpec)

/-- 'millwrightlaw01.LebShort', WHERE WHAT IT READS IS OF BULK AT MOST 1048576: true; the input reads as it did. -/
def lebShortUptoRow : OpenClaim := { program := "ytceepkgpdhdhnaa", sum := "6439cf842c8e7a8d6533688dedfc8e0a179a41f3978fc5170fb2ca6ba8f43ee5", func := "millwright/millwrightlaw01.LebShort", spec := "lebShort", apart := false, narrowed := true }
def LebShortUptoSaid : Prop := lebShortUptoRow.holds Try.pinned (OpenSpec.upto lebShortSpec)

end Rows
end Go.Proofs.Ytceepkgpdhdhnaa
