/-
  No cell of these rows narrows 'for every input' (looked for: loops, veiled, ifaces, maps, wideKeys, modest, calm, conditions, laid).
  DERIVED. THE GIVEN ROWS OF THIS SEAT. 5 by the template 'for every input the law returns true; each argument reads behind the call as it read before'; 0 by the template 'total and deterministic' (their statements: YtkljmdekihlkeaaTotals.lean).
  GIVEN WITH THE SEED: the statements are not yours to turn. If you find one false, say at which input.
  Laid BY PROGRAM, IN A SANDBOX (cutbox-rows.mjs): the forced cells as the released guide's own fill.sh prints them over the translation 7401d44189367ace… (all of the seat's roots in one cut). By AI agents, Wed Nov 11 2026. No macro, syntax, notation, axiom, sorry.
-/
import Derived.Test.YtkljmdekihlkeaaChecked
import GoSem.Claim
import GoSem.ClaimJoined
import GoSem.ClaimMapViews
import Derived.JoinedTies
import Derived.KernelRfl
namespace Go.Proofs.Ytkljmdekihlkeaa
/- THE CELL 'sum', in the pinned program and in every row, IS THE sha256 OF THE DUMP (.gsa) THAT YtkljmdekihlkeaaProg.lean LOADS. Nothing in Lean hashes anything: it is a label: what it is worth is what the hold of that sum in a sandbox is worth. -/
noncomputable def Try.pinned : Pinned := { name := "ytkljmdekihlkeaa", sum := "7401d44189367ace794ae2c2c31ba4682eb48a9edc75bc2cc2327a7732e883fa", checked := Try.checked }
namespace Rows
def none {H : Type} : Left H := { results := [], args := [] }

/-- 'millwrightlaw06.TypesLess': WHATEVER THE INPUT: true; the input reads as it did. -/
def typesLessSpec : ChangeSpec := { name := "typesLess", fn := fun _ => fun
  | [d1, d2, d3] => { results := [.lit (.bool true)], args := [d1, d2, d3] }
  | _ => none }
def typesLessRow : OpenClaim := { program := "ytkljmdekihlkeaa", sum := "7401d44189367ace794ae2c2c31ba4682eb48a9edc75bc2cc2327a7732e883fa", func := "millwright/millwrightlaw06.TypesLess", spec := "typesLess", inPlace := ["internal/abi.NoEscape", "internal/bytealg.MakeNoZero"], unfollowed := true, recurses := true, apart := false }
def TypesLessSaid : Prop := typesLessRow.holds Try.pinned (OpenSpec.ofChange typesLessSpec)

/-- ITS FALSE NEIGHBOUR: 'it returns false'. Refute it at one input. -/
def typesLessWrong : ChangeSpec := { name := "typesLess", fn := fun _ => fun
  | [d1, d2, d3] => { results := [.lit (.bool false)], args := [d1, d2, d3] }
  | _ => none }
def TypesLessWrongFalsely : Prop := typesLessRow.holds Try.pinned (OpenSpec.ofChange typesLessWrong)

/-- 'millwrightlaw06.TypesLimits': WHATEVER THE INPUT: true; the input reads as it did. -/
def typesLimitsSpec : ChangeSpec := { name := "typesLimits", fn := fun _ => fun
  | [d] => { results := [.lit (.bool true)], args := [d] }
  | _ => none }
def typesLimitsRow : OpenClaim := { program := "ytkljmdekihlkeaa", sum := "7401d44189367ace794ae2c2c31ba4682eb48a9edc75bc2cc2327a7732e883fa", func := "millwright/millwrightlaw06.TypesLimits", spec := "typesLimits", inPlace := ["internal/abi.NoEscape", "internal/bytealg.MakeNoZero"], unfollowed := true, recurses := true, apart := false }
def TypesLimitsSaid : Prop := typesLimitsRow.holds Try.pinned (OpenSpec.ofChange typesLimitsSpec)

/-- ITS FALSE NEIGHBOUR: 'it returns false'. Refute it at one input. -/
def typesLimitsWrong : ChangeSpec := { name := "typesLimits", fn := fun _ => fun
  | [d] => { results := [.lit (.bool false)], args := [d] }
  | _ => none }
def TypesLimitsWrongFalsely : Prop := typesLimitsRow.holds Try.pinned (OpenSpec.ofChange typesLimitsWrong)

/-- 'millwrightlaw06.TypesFuncs': WHATEVER THE INPUT: true; the input reads as it did. -/
def typesFuncsSpec : ChangeSpec := { name := "typesFuncs", fn := fun _ => fun
  | [d1, d2] => { results := [.lit (.bool true)], args := [d1, d2] }
  | _ => none }
def typesFuncsRow : OpenClaim := { program := "ytkljmdekihlkeaa", sum := "7401d44189367ace794ae2c2c31ba4682eb48a9edc75bc2cc2327a7732e883fa", func := "millwright/millwrightlaw06.TypesFuncs", spec := "typesFuncs", inPlace := ["internal/abi.NoEscape", "internal/bytealg.MakeNoZero"], unfollowed := true, recurses := true, apart := false }
def TypesFuncsSaid : Prop := typesFuncsRow.holds Try.pinned (OpenSpec.ofChange typesFuncsSpec)

/-- ITS FALSE NEIGHBOUR: 'it returns false'. Refute it at one input. -/
def typesFuncsWrong : ChangeSpec := { name := "typesFuncs", fn := fun _ => fun
  | [d1, d2] => { results := [.lit (.bool false)], args := [d1, d2] }
  | _ => none }
def TypesFuncsWrongFalsely : Prop := typesFuncsRow.holds Try.pinned (OpenSpec.ofChange typesFuncsWrong)

/-- 'millwrightlaw06.TypesOne': WHATEVER THE INPUT: true; the input reads as it did. -/
def typesOneSpec : ChangeSpec := { name := "typesOne", fn := fun _ => fun
  | [d1, d2, d3] => { results := [.lit (.bool true)], args := [d1, d2, d3] }
  | _ => none }
def typesOneRow : OpenClaim := { program := "ytkljmdekihlkeaa", sum := "7401d44189367ace794ae2c2c31ba4682eb48a9edc75bc2cc2327a7732e883fa", func := "millwright/millwrightlaw06.TypesOne", spec := "typesOne", inPlace := ["internal/abi.NoEscape", "internal/bytealg.MakeNoZero"], unfollowed := true, recurses := true, apart := false }
def TypesOneSaid : Prop := typesOneRow.holds Try.pinned (OpenSpec.ofChange typesOneSpec)

/-- ITS FALSE NEIGHBOUR: 'it returns false'. Refute it at one input. -/
def typesOneWrong : ChangeSpec := { name := "typesOne", fn := fun _ => fun
  | [d1, d2, d3] => { results := [.lit (.bool false)], args := [d1, d2, d3] }
  | _ => none }
def TypesOneWrongFalsely : Prop := typesOneRow.holds Try.pinned (OpenSpec.ofChange typesOneWrong)

/-- 'millwrightlaw06.TypesBack': WHATEVER THE INPUT: true; the input reads as it did. -/
def typesBackSpec : ChangeSpec := { name := "typesBack", fn := fun _ => fun
  | [d1, d2, d3] => { results := [.lit (.bool true)], args := [d1, d2, d3] }
  | _ => none }
def typesBackRow : OpenClaim := { program := "ytkljmdekihlkeaa", sum := "7401d44189367ace794ae2c2c31ba4682eb48a9edc75bc2cc2327a7732e883fa", func := "millwright/millwrightlaw06.TypesBack", spec := "typesBack", inPlace := ["internal/abi.NoEscape", "internal/bytealg.MakeNoZero"], unfollowed := true, recurses := true, apart := false }
def TypesBackSaid : Prop := typesBackRow.holds Try.pinned (OpenSpec.ofChange typesBackSpec)

/-- ITS FALSE NEIGHBOUR: 'it returns false'. Refute it at one input. -/
def typesBackWrong : ChangeSpec := { name := "typesBack", fn := fun _ => fun
  | [d1, d2, d3] => { results := [.lit (.bool false)], args := [d1, d2, d3] }
  | _ => none }
def TypesBackWrongFalsely : Prop := typesBackRow.holds Try.pinned (OpenSpec.ofChange typesBackWrong)

/- THE SECOND FORM. 'bulk': how many values and letters a reading holds, each counted each time it is reached (what is shared counts as often as it is met; a slice's spare places count too). A statement '..UptoSaid' is the law's where the arguments, and the package variables that the reading takes, are together of bulk at most 1048576: NARROWER than '..Said'. Prove '..Said' where nothing that the law and all that it calls make is longer than what came in: it says more and counts as full. Else prove '..UptoSaid'. A law counts once. -/
mutual
def uptoBulk {H : Type} : DataW H → Nat
  | .lit (.string bytes) => bytes.length + 1
  | .lit _ => 1
  | .nil => 1
  | .ptr d => uptoBulk d + 1
  | .slice elems spare => uptoBulkAll elems + uptoBulkAll spare + 1
  | .agg parts => uptoBulkAll parts + 1
  | .iface _ d => uptoBulk d + 1
  | .map entries => uptoBulkEntries entries + 1
  | .held _ => 1
def uptoBulkAll {H : Type} : List (DataW H) → Nat
  | [] => 0
  | d :: r => uptoBulk d + uptoBulkAll r
def uptoBulkEntries {H : Type} : List (Lit × DataW H) → Nat
  | [] => 0
  | x :: r => uptoBulkEntry x + uptoBulkEntries r
def uptoBulkEntry {H : Type} : Lit × DataW H → Nat
  | (.string bytes, d) => bytes.length + uptoBulk d + 1
  | (_, d) => uptoBulk d + 1
 end
def uptoSmall : (H : Type) → List (DataW H) → Bool := fun _ ds => decide (uptoBulkAll ds ≤ 1048576)
def OpenSpec.upto (s : _root_.Go.ChangeSpec) : _root_.Go.OpenSpec := { _root_.Go.OpenSpec.ofChange s with cond := some uptoSmall }

/-- 'millwrightlaw06.TypesLess', WHERE WHAT IT READS IS OF BULK AT MOST 1048576: true; the input reads as it did. -/
def typesLessUptoRow : OpenClaim := { program := "ytkljmdekihlkeaa", sum := "7401d44189367ace794ae2c2c31ba4682eb48a9edc75bc2cc2327a7732e883fa", func := "millwright/millwrightlaw06.TypesLess", spec := "typesLess", inPlace := ["internal/abi.NoEscape", "internal/bytealg.MakeNoZero"], unfollowed := true, recurses := true, apart := false, narrowed := true }
def TypesLessUptoSaid : Prop := typesLessUptoRow.holds Try.pinned (OpenSpec.upto typesLessSpec)

/-- 'millwrightlaw06.TypesLimits', WHERE WHAT IT READS IS OF BULK AT MOST 1048576: true; the input reads as it did. -/
def typesLimitsUptoRow : OpenClaim := { program := "ytkljmdekihlkeaa", sum := "7401d44189367ace794ae2c2c31ba4682eb48a9edc75bc2cc2327a7732e883fa", func := "millwright/millwrightlaw06.TypesLimits", spec := "typesLimits", inPlace := ["internal/abi.NoEscape", "internal/bytealg.MakeNoZero"], unfollowed := true, recurses := true, apart := false, narrowed := true }
def TypesLimitsUptoSaid : Prop := typesLimitsUptoRow.holds Try.pinned (OpenSpec.upto typesLimitsSpec)

/-- 'millwrightlaw06.TypesFuncs', WHERE WHAT IT READS IS OF BULK AT MOST 1048576: true; the input reads as it did. -/
def typesFuncsUptoRow : OpenClaim := { program := "ytkljmdekihlkeaa", sum := "7401d44189367ace794ae2c2c31ba4682eb48a9edc75bc2cc2327a7732e883fa", func := "millwright/millwrightlaw06.TypesFuncs", spec := "typesFuncs", inPlace := ["internal/abi.NoEscape", "internal/bytealg.MakeNoZero"], unfollowed := true, recurses := true, apart := false, narrowed := true }
def TypesFuncsUptoSaid : Prop := typesFuncsUptoRow.holds Try.pinned (OpenSpec.upto typesFuncsSpec)

/-- 'millwrightlaw06.TypesOne', WHERE WHAT IT READS IS OF BULK AT MOST 1048576: true; the input reads as it did. -/
def typesOneUptoRow : OpenClaim := { program := "ytkljmdekihlkeaa", sum := "7401d44189367ace794ae2c2c31ba4682eb48a9edc75bc2cc2327a7732e883fa", func := "millwright/millwrightlaw06.TypesOne", spec := "typesOne", inPlace := ["internal/abi.NoEscape", "internal/bytealg.MakeNoZero"], unfollowed := true, recurses := true, apart := false, narrowed := true }
def TypesOneUptoSaid : Prop := typesOneUptoRow.holds Try.pinned (OpenSpec.upto typesOneSpec)

/-- 'millwrightlaw06.TypesBack', WHERE WHAT IT READS IS OF BULK AT MOST 1048576: true; the input reads as it did. -/
def typesBackUptoRow : OpenClaim := { program := "ytkljmdekihlkeaa", sum := "7401d44189367ace794ae2c2c31ba4682eb48a9edc75bc2cc2327a7732e883fa", func := "millwright/millwrightlaw06.TypesBack", spec := "typesBack", inPlace := ["internal/abi.NoEscape", "internal/bytealg.MakeNoZero"], unfollowed := true, recurses := true, apart := false, narrowed := true }
def TypesBackUptoSaid : Prop := typesBackUptoRow.holds Try.pinned (OpenSpec.upto typesBackSpec)

end Rows
end Go.Proofs.Ytkljmdekihlkeaa
