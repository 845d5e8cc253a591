/-
  The walk of the law TreeParses.
-/
import Derived.Test.YtnjhbhbohnjckaaTreeAlive
import Derived.Test.YtnjhbhbohnjckaaTreeRefParse
import Derived.Test.YtnjhbhbohnjckaaTreeSame
import Derived.Test.YtnjhbhbohnjckaaTreeTurned
import Derived.Test.YtnjhbhbohnjckaaTreeSize
set_option linter.unusedVariables false
set_option linter.unusedSimpArgs false
namespace Go.Proofs.Ytnjhbhbohnjckaa
open Go.RowKit
open Tree (Tr)

theorem lies_below {w w' : World} {S : Nat → Prop} {A : Option Addr} {l : List Tr} {B : Nat} (h : Lies w S A l) (hb : Below B w w') (hS : ∀ g, S g → g < B) : Lies w' S A l :=
  h.keep (fun g hg => hb.block g (hS g hg)) fun _ h => h

set_option maxHeartbeats 4000000 in
set_option maxRecDepth 100000 in
theorem treeParses_walk (l : List UInt8) (w : World) (hl : l.length ≤ 9223372036854775807) :
    Calls Try.prog 3 #[.string ⟨l.toArray⟩] w fun e w' => e = .returned (.bool true) ∧ Below w.heap.size w w' := by
  by_cases h1 : 1000 < l.length
  · go_enter Try.func3, Try.ntmps3
    go_wp2_with (go_at_call 8; refine (alive_any _).mono ?_; rintro e w1 ⟨rfl, hb⟩)
    go_ret
    exact ⟨rfl, hb⟩
  have g1 : decide ((1000 : Int) < (l.length : Int)) = false := by simp; omega
  have hl' : l.length ≤ 1000 := by omega
  clear hl h1
  rcases hx : Tree.parse l with ⟨L, a, er⟩
  have hsm := Tree.parse_small hx
  have hcn := hsm.counts
  have HP := Lib.hid (fun w => parse_any l w (by omega))
  have HR := Lib.hid (fun w => refParse_any l w (by omega))
  rw [hx] at HP HR
  have HSS := Lib.hid (Tree.sames_self true L)
  clear hx hsm
  go_enter Try.func3, Try.ntmps3
  go_wp2_with fail
  refine (HP.out _).mono ?_
  rintro e w1 ⟨A1, c1, rfl, hl1, hc1, hm1, hb1⟩
  dsimp only at hl1 hc1 ⊢
  go_wp2_with fail
  refine (HR.out _).mono ?_
  rintro e w2 ⟨A2, c2, rfl, hl2, hc2, hm2, hb2⟩
  dsimp only at hl2 hc2 ⊢
  have hl1' := lies_below hl1 hb2 (fun g hg => hg.2)
  have s1 := hb1.size
  have s2 := hb2.size
  have hS1 : ∀ g, Fresh w.heap.size w1 g → g < w2.heap.size := fun g hg => Nat.lt_of_lt_of_le hg.2 s2
  have HT := Lib.hid (turned_any (Tree.counts L + 1) L (by omega) (by omega) A1 c1 _ _ hl1' hS1)
  clear hl1 hl1' hS1
  go_wp2_with fail
  (with_reducible refine HT.out.mono ?_)
  rintro e w3 ⟨A3, c3, rfl, hl3, hc3, hm3, hb3⟩
  have s3 := hb3.size
  have hl2' := lies_below hl2 hb3 (fun g hg => hg.2)
  have HM := Lib.hid (same_any (Tree.counts L + 1) L (by omega) (by omega) L A3 A2 c3 c2 _ _ true _ hl3 (fun g hg => hg.2) hl2' (fun g hg => Nat.lt_of_lt_of_le hg.2 s3))
  rw [HSS.out] at HM
  have hb4 := (hb1.trans (hb2.mono s1)).trans (hb3.mono (by omega))
  clear hl2 hl2' hl3 HT hb1 hb2 hb3
  go_wp2_with fail
  (with_reducible refine HM.out.mono ?_)
  rintro e w4 ⟨rfl, hb5⟩
  have hb6 := hb4.trans (hb5.mono (by omega))
  clear HM
  go_wp2_with (go_at_call 8; (with_reducible refine (alive_any _).mono ?_); rintro e w5 ⟨rfl, hb7⟩)
  go_ret
  exact ⟨rfl, hb6.trans (hb7.mono hb6.size)⟩
end Go.Proofs.Ytnjhbhbohnjckaa
