/-
  The law Quotes of the literals: the walk.
-/
import Derived.Test.YtpmalmednkknpaaDoorLitAlive
import Derived.Test.YtpmalmednkknpaaDoorLitRUnq
set_option linter.unusedVariables false
namespace Go.Proofs.YtpmalmednkknpaaDoor
open Go.RowKit
attribute [local go_sem] ByteArray.extract_mk

set_option maxHeartbeats 1000000 in
set_option maxRecDepth 100000 in
theorem quotes_walk (B : Option Addr) (bc : Nat) (b l : List UInt8) (w : World) (ht : Tab w) (hr : RdB w w.heap.size B b) (hm : l.length ≤ 9223372036854775807) (hm2 : b.length ≤ 9223372036854775807) :
    Calls Tryd.prog 3 #[.slice B b.length bc, .string ⟨l.toArray⟩] w fun e w' => e = .returned (.bool true) ∧ Below w.heap.size w w' := by
  have HA : Hid (∀ W, Tab W → Calls Tryd.prog 11 #[] W fun e w' => e = .returned (.bool true) ∧ Below W.heap.size W w') := Lib.hid (fun W h => alive_any W h)
  by_cases hb : b.length ≤ 300
  · have i1 : (b.length : Int) ≤ 300 := by omega
    by_cases hl : l.length ≤ 300
    · have i2 : (l.length : Int) ≤ 300 := by omega
      have H1 : Hid (∀ W, Calls Tryd.prog 12 #[.string ⟨l.toArray⟩] W (RetUnq (Ltr.unquote l) W)) := Lib.hid (fun W => unquote_any l W (by omega))
      have H2 : Hid (∀ W, Calls Tryd.prog 13 #[.string ⟨l.toArray⟩] W (RetUnq (Ltr.unquote l) W)) := Lib.hid (fun W => runquote_any l W (by omega))
      have H3 : Hid (∀ W, RdB W W.heap.size B b → Calls Tryd.prog 14 #[.slice B b.length bc] W fun e w' => e = .returned (.string ⟨(Ltr.quote b).toArray⟩) ∧ Below W.heap.size W w') := Lib.hid (fun W h => quote_any B bc b W h (by omega))
      have H4 : Hid (∀ W, RdB W W.heap.size B b → Calls Tryd.prog 15 #[.slice B b.length bc] W fun e w' => e = .returned (.string ⟨(Ltr.quote b).toArray⟩) ∧ ∃ q, w' = W.drewN q) := Lib.hid (fun W h => rquote_any B bc b W h (by omega))
      obtain ⟨⟨x, e⟩, hx⟩ : ∃ q, Ltr.unquote l = q := ⟨_, rfl⟩
      rw [hx] at H1 H2
      obtain ⟨Q, hQ⟩ : ∃ q, Ltr.quote b = q := ⟨_, rfl⟩
      rw [hQ] at H3 H4
      clear hx hQ
      go_enter Tryd.func3, Tryd.ntmps3
      go_wp2_with (first
        | (go_at_call 12; refine (H1.out _).mono ?_; rintro e1 w1 ⟨A1, m1, c1, rfl, hn1, hr1, hb1⟩; have hs1 := hb1.size)
        | (go_at_call 13; refine (H2.out _).mono ?_; rintro e2 w2 ⟨A2, m2, c2, rfl, hn2, hr2, hb2⟩; have hs2 := hb2.size; have hr2' := (hr.below (hb1.trans (hb2.mono hs1))).more (show w.heap.size ≤ w2.heap.size by omega))
        | (go_at_call 14; refine (H3.out _ hr2').mono ?_; rintro e3 w3 ⟨rfl, hb3⟩; have hs3 := hb3.size; have hr3' := (hr2'.below hb3).more hs3)
        | (go_at_call 15; refine (H4.out _ hr3').mono ?_; rintro e4 w4 ⟨rfl, q4, rfl⟩; have hv1 := str_n (W := w3.drewN q4) (((hr1.below hb2).below (hb3.mono hs2)).drewN q4) hn1 c1; have hv2 := str_n (W := w3.drewN q4) ((hr2.below hb3).drewN q4) hn2 c2; have htw : Tab (w3.drewN q4) := (ht.below ((hb1.trans (hb2.mono hs1)).trans (hb3.mono (by omega)))).drewN q4)
        | (go_at_call 11; refine (HA.out _ htw).mono ?_; rintro e5 w5 ⟨rfl, hb5⟩))
      go_ret
      exact ⟨rfl, ((hb1.trans (hb2.mono hs1)).trans (hb3.mono (by omega))).trans (((below_drewN w3 _).trans hb5).mono (by omega))⟩
    · have i2 : 300 < (l.length : Int) := by omega
      go_enter Tryd.func3, Tryd.ntmps3
      go_wp2_with (first
        | (go_at_call 11; refine (HA.out _ ht).mono ?_; rintro e w2 ⟨rfl, hb2⟩))
      go_ret
      exact ⟨rfl, hb2⟩
  · have i1 : 300 < (b.length : Int) := by omega
    go_enter Tryd.func3, Tryd.ntmps3
    go_wp2_with (first
      | (go_at_call 11; refine (HA.out _ ht).mono ?_; rintro e w2 ⟨rfl, hb2⟩))
    go_ret
    exact ⟨rfl, hb2⟩
end Go.Proofs.YtpmalmednkknpaaDoor
