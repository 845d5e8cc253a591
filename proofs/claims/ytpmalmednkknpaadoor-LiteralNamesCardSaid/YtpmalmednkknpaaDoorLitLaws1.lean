/-
  The laws Nums, Nats, Texts and Names of the literals: the walks.
-/
import Derived.Test.YtpmalmednkknpaaDoorLitAlive
import Derived.Test.YtpmalmednkknpaaDoorLitRNat
import Derived.Test.YtpmalmednkknpaaDoorLitRName
set_option linter.unusedVariables false
namespace Go.Proofs.YtpmalmednkknpaaDoor
open Go.RowKit
attribute [local go_sem] ByteArray.extract_mk

set_option maxHeartbeats 1000000 in
set_option maxRecDepth 100000 in
theorem nums_walk (l : List UInt8) (bits : Int) (w : World) (ht : Tab w) (hm : l.length ≤ 9223372036854775807) :
    Calls Tryd.prog 4 #[.string ⟨l.toArray⟩, .int .i64 bits] w fun e w' => e = .returned (.bool true) ∧ Below w.heap.size w w' := by
  have HA : Hid (∀ W, Tab W → Calls Tryd.prog 11 #[] W fun e w' => e = .returned (.bool true) ∧ Below W.heap.size W w') := Lib.hid (fun W h => alive_any W h)
  by_cases hl : l.length ≤ 100
  · have H1 : Hid (∀ W, Calls Tryd.prog 16 #[.string ⟨l.toArray⟩, .int .i64 bits] W (RetN (Ltr.numF l bits) W)) := Lib.hid (fun W => num_any l bits W (by omega))
    have H2 : Hid (∀ W, Calls Tryd.prog 17 #[.string ⟨l.toArray⟩, .int .i64 bits] W (RetN (Ltr.numF l bits) W)) := Lib.hid (fun W => rnum_any l bits W (by omega))
    obtain ⟨⟨n, e⟩, hx⟩ : ∃ q, Ltr.numF l bits = q := ⟨_, rfl⟩
    rw [hx] at H1 H2
    have i1 : (l.length : Int) ≤ 100 := by omega
    go_enter Tryd.func4, Tryd.ntmps4
    go_wp2_with (first
      | (go_at_call 16; refine (H1.out _).mono ?_; rintro e w2 ⟨rfl, q2, rfl⟩)
      | (go_at_call 17; refine (H2.out _).mono ?_; rintro e w2 ⟨rfl, q3, rfl⟩)
      | (go_at_call 11; refine (HA.out _ (ht.drewN _)).mono ?_; rintro e w2 ⟨rfl, hb2⟩))
    go_ret
    exact ⟨rfl, (below_drewN w _).trans hb2⟩
  · have i1 : 100 < (l.length : Int) := by omega
    go_enter Tryd.func4, Tryd.ntmps4
    go_wp2_with (first
      | (go_at_call 11; refine (HA.out _ ht).mono ?_; rintro e w2 ⟨rfl, hb2⟩))
    go_ret
    exact ⟨rfl, hb2⟩

set_option maxHeartbeats 1000000 in
set_option maxRecDepth 100000 in
theorem nats_walk (l : List UInt8) (m : Int) (w : World) (ht : Tab w) (hm : l.length ≤ 9223372036854775807) (hm2 : m ≤ 9223372036854775807) :
    Calls Tryd.prog 5 #[.string ⟨l.toArray⟩, .int .i64 m] w fun e w' => e = .returned (.bool true) ∧ Below w.heap.size w w' := by
  have HA : Hid (∀ W, Tab W → Calls Tryd.prog 11 #[] W fun e w' => e = .returned (.bool true) ∧ Below W.heap.size W w') := Lib.hid (fun W h => alive_any W h)
  by_cases hl : l.length ≤ 100
  · have H1 : Hid (∀ W, Calls Tryd.prog 18 #[.string ⟨l.toArray⟩, .int .i64 m] W fun e w' => e = .returned (.tuple #[.int .i64 (Ltr.natF l m).1, .int .i64 (Ltr.natF l m).2]) ∧ ∃ q, w' = W.drewN q) := Lib.hid (fun W => lnat_any l m W (by omega) hm2)
    have H2 : Hid (∀ W, Calls Tryd.prog 19 #[.string ⟨l.toArray⟩, .int .i64 m] W fun e w' => e = .returned (.tuple #[.int .i64 (Ltr.natF l m).1, .int .i64 (Ltr.natF l m).2]) ∧ W = w') := Lib.hid (fun W => rnat_any l m W (by omega) hm2)
    obtain ⟨⟨n, e⟩, hx⟩ : ∃ q, Ltr.natF l m = q := ⟨_, rfl⟩
    rw [hx] at H1 H2
    have i1 : (l.length : Int) ≤ 100 := by omega
    go_enter Tryd.func5, Tryd.ntmps5
    go_wp2_with (first
      | (go_at_call 18; refine (H1.out _).mono ?_; rintro e w2 ⟨rfl, q2, rfl⟩)
      | (go_at_call 19; refine (H2.out _).mono ?_; rintro e w2 ⟨rfl, rfl⟩)
      | (go_at_call 11; refine (HA.out _ (ht.drewN _)).mono ?_; rintro e w2 ⟨rfl, hb2⟩))
    go_ret
    exact ⟨rfl, (below_drewN w _).trans hb2⟩
  · have i1 : 100 < (l.length : Int) := by omega
    go_enter Tryd.func5, Tryd.ntmps5
    go_wp2_with (first
      | (go_at_call 11; refine (HA.out _ ht).mono ?_; rintro e w2 ⟨rfl, hb2⟩))
    go_ret
    exact ⟨rfl, hb2⟩

set_option maxHeartbeats 1000000 in
set_option maxRecDepth 100000 in
theorem texts_walk (n : Nat) (hn : n < 18446744073709551616) (bits : Int) (w : World) (ht : Tab w) :
    Calls Tryd.prog 6 #[.int .u64 (n : Int), .int .i64 bits] w fun e w' => e = .returned (.bool true) ∧ Below w.heap.size w w' := by
  have HA : Hid (∀ W, Tab W → Calls Tryd.prog 11 #[] W fun e w' => e = .returned (.bool true) ∧ Below W.heap.size W w') := Lib.hid (fun W h => alive_any W h)
  have H1 := Lib.hid (text_any n hn bits w ht)
  have H2 := Lib.hid (fun W => rtext_any n hn bits W)
  obtain ⟨x, hx⟩ : ∃ q, Ltr.textF n bits = q := ⟨_, rfl⟩
  rw [hx] at H1 H2
  go_enter Tryd.func6, Tryd.ntmps6
  go_wp2_with (first
    | (go_at_call 20; refine (H1.out).mono ?_; rintro e w1 ⟨rfl, hb1⟩)
    | (go_at_call 21; refine (H2.out _).mono ?_; rintro e w2 ⟨rfl, q3, rfl⟩)
    | (go_at_call 11; refine (HA.out _ ((ht.below hb1).drewN _)).mono ?_; rintro e w3 ⟨rfl, hb2⟩))
  go_ret
  exact ⟨rfl, hb1.trans (((below_drewN w1 _).trans hb2).mono hb1.size)⟩

set_option maxHeartbeats 1000000 in
set_option maxRecDepth 100000 in
theorem names_walk (l : List UInt8) (w : World) (ht : Tab w) (hm : l.length ≤ 9223372036854775807) :
    Calls Tryd.prog 7 #[.string ⟨l.toArray⟩] w fun e w' => e = .returned (.bool true) ∧ Below w.heap.size w w' := by
  have HA : Hid (∀ W, Tab W → Calls Tryd.prog 11 #[] W fun e w' => e = .returned (.bool true) ∧ Below W.heap.size W w') := Lib.hid (fun W h => alive_any W h)
  by_cases hl : l.length ≤ 100
  · have H1 := Lib.hid (lname_any l w hm)
    have H2 := Lib.hid (rname_any l w hm)
    obtain ⟨x, hx⟩ : ∃ q, Ltr.name l = q := ⟨_, rfl⟩
    rw [hx] at H1 H2
    have i1 : (l.length : Int) ≤ 100 := by omega
    go_enter Tryd.func7, Tryd.ntmps7
    go_wp2_with (first
      | (go_at_call 22; refine (H1.out).mono ?_; rintro e w2 ⟨rfl, rfl⟩)
      | (go_at_call 23; refine (H2.out).mono ?_; rintro e w2 ⟨rfl, rfl⟩)
      | (go_at_call 11; refine (HA.out _ ht).mono ?_; rintro e w2 ⟨rfl, hb2⟩))
    go_ret
    exact ⟨rfl, hb2⟩
  · have i1 : 100 < (l.length : Int) := by omega
    go_enter Tryd.func7, Tryd.ntmps7
    go_wp2_with (first
      | (go_at_call 11; refine (HA.out _ ht).mono ?_; rintro e w2 ⟨rfl, hb2⟩))
    go_ret
    exact ⟨rfl, hb2⟩
end Go.Proofs.YtpmalmednkknpaaDoor
