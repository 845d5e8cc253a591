/-
  Find and OfByte, and the reference's functions on value types.
-/
import Derived.Test.YtagcildoebicnaaTypesMore
import Derived.LoopN
set_option linter.unusedVariables false
namespace Go.Proofs.Ytagcildoebicnaa
open Go.RowKit

namespace Ty
def find (nm : List UInt8) : Int × Bool := if name 1 = nm then (1, true) else if name 2 = nm then (2, true) else if name 3 = nm then (3, true) else if name 4 = nm then (4, true) else (0, false)
def ofByte (b : Int) : Int × Bool := if byte 1 = b then (1, true) else if byte 2 = b then (2, true) else if byte 3 = b then (3, true) else if byte 4 = b then (4, true) else (0, false)
/-- The five ways through the search. -/
theorem ways {p1 p2 p3 p4 : Prop} [Decidable p1] [Decidable p2] [Decidable p3] [Decidable p4] {α : Type} (a b c d e : α) :
    (p1 ∧ (if p1 then a else if p2 then b else if p3 then c else if p4 then d else e) = a) ∨ (¬ p1 ∧ p2 ∧ (if p1 then a else if p2 then b else if p3 then c else if p4 then d else e) = b) ∨
    (¬ p1 ∧ ¬ p2 ∧ p3 ∧ (if p1 then a else if p2 then b else if p3 then c else if p4 then d else e) = c) ∨ (¬ p1 ∧ ¬ p2 ∧ ¬ p3 ∧ p4 ∧ (if p1 then a else if p2 then b else if p3 then c else if p4 then d else e) = d) ∨
    (¬ p1 ∧ ¬ p2 ∧ ¬ p3 ∧ ¬ p4 ∧ (if p1 then a else if p2 then b else if p3 then c else if p4 then d else e) = e) := by
  by_cases h1 : p1
  · exact .inl ⟨h1, if_pos h1⟩
  by_cases h2 : p2
  · exact .inr (.inl ⟨h1, h2, by rw [if_neg h1, if_pos h2]⟩)
  by_cases h3 : p3
  · exact .inr (.inr (.inl ⟨h1, h2, h3, by rw [if_neg h1, if_neg h2, if_pos h3]⟩))
  by_cases h4 : p4
  · exact .inr (.inr (.inr (.inl ⟨h1, h2, h3, h4, by rw [if_neg h1, if_neg h2, if_neg h3, if_pos h4]⟩)))
  exact .inr (.inr (.inr (.inr ⟨h1, h2, h3, h4, by rw [if_neg h1, if_neg h2, if_neg h3, if_neg h4]⟩)))
end Ty

set_option maxHeartbeats 1000000 in
set_option maxRecDepth 100000 in
theorem ofByte_any (b : Int) (w : World) : Calls Try.prog 53 #[.int .u8 b] w fun e w' => e = .returned (.tuple #[.int .i64 (Ty.ofByte b).1, .bool (Ty.ofByte b).2]) ∧ w = w' := by
  rcases Ty.ways (p1 := Ty.byte 1 = b) (p2 := Ty.byte 2 = b) (p3 := Ty.byte 3 = b) (p4 := Ty.byte 4 = b) ((1, true) : Int × Bool) (2, true) (3, true) (4, true) (0, false) with ⟨a1, hv⟩ | ⟨a1, a2, hv⟩ | ⟨a1, a2, a3, hv⟩ | ⟨a1, a2, a3, a4, hv⟩ | ⟨a1, a2, a3, a4, hv⟩
  all_goals have HV := Lib.hid (show Ty.ofByte b = _ from hv)
  all_goals clear hv
  case inl =>
    have g1 : (Ty.byte 1 == b) = true := by simpa using a1
    clear a1
    go_enter Try.func53, Try.ntmps53
    go_wp2_with fail
    refine wp_loop_rounds 1 ?_
    iterate 1 (rw [rounds_succ]; go_wp2_with (go_at_call 62; refine (byte_any _ _).mono ?_; rintro e w1 ⟨rfl, rfl⟩))
    go_ret2
    exact ⟨by rw [HV.out]; rfl, rfl⟩
  case inr.inl =>
    have g1 : (Ty.byte 1 == b) = false := by simpa using a1
    have g2 : (Ty.byte 2 == b) = true := by simpa using a2
    clear a1 a2
    go_enter Try.func53, Try.ntmps53
    go_wp2_with fail
    refine wp_loop_rounds 2 ?_
    iterate 2 (rw [rounds_succ]; go_wp2_with (go_at_call 62; refine (byte_any _ _).mono ?_; rintro e w1 ⟨rfl, rfl⟩))
    go_ret2
    exact ⟨by rw [HV.out]; rfl, rfl⟩
  case inr.inr.inl =>
    have g1 : (Ty.byte 1 == b) = false := by simpa using a1
    have g2 : (Ty.byte 2 == b) = false := by simpa using a2
    have g3 : (Ty.byte 3 == b) = true := by simpa using a3
    clear a1 a2 a3
    go_enter Try.func53, Try.ntmps53
    go_wp2_with fail
    refine wp_loop_rounds 3 ?_
    iterate 3 (rw [rounds_succ]; go_wp2_with (go_at_call 62; refine (byte_any _ _).mono ?_; rintro e w1 ⟨rfl, rfl⟩))
    go_ret2
    exact ⟨by rw [HV.out]; rfl, rfl⟩
  case inr.inr.inr.inl =>
    have g1 : (Ty.byte 1 == b) = false := by simpa using a1
    have g2 : (Ty.byte 2 == b) = false := by simpa using a2
    have g3 : (Ty.byte 3 == b) = false := by simpa using a3
    have g4 : (Ty.byte 4 == b) = true := by simpa using a4
    clear a1 a2 a3 a4
    go_enter Try.func53, Try.ntmps53
    go_wp2_with fail
    refine wp_loop_rounds 4 ?_
    iterate 4 (rw [rounds_succ]; go_wp2_with (go_at_call 62; refine (byte_any _ _).mono ?_; rintro e w1 ⟨rfl, rfl⟩))
    go_ret2
    exact ⟨by rw [HV.out]; rfl, rfl⟩
  case inr.inr.inr.inr =>
    have g1 : (Ty.byte 1 == b) = false := by simpa using a1
    have g2 : (Ty.byte 2 == b) = false := by simpa using a2
    have g3 : (Ty.byte 3 == b) = false := by simpa using a3
    have g4 : (Ty.byte 4 == b) = false := by simpa using a4
    clear a1 a2 a3 a4
    go_enter Try.func53, Try.ntmps53
    go_wp2_with fail
    refine wp_loop_rounds 5 ?_
    iterate 5 (rw [rounds_succ]; go_wp2_with (go_at_call 62; refine (byte_any _ _).mono ?_; rintro e w1 ⟨rfl, rfl⟩))
    go_ret2
    exact ⟨by rw [HV.out]; rfl, rfl⟩

theorem refVal_any (t : Int) (w : World) : Calls Try.prog 88 #[.int .i64 t] w fun e w' => e = .returned (.bool (Ty.val t)) ∧ w = w' := by
  rcases Ty.five t with rfl | rfl | rfl | rfl | h
  case inr.inr.inr.inr =>
    have HV := Lib.hid (Ty.val_no h)
    simp at h
    by_cases h1 : 1 ≤ t
    · have h2 : 4 < t := by omega
      have g1 : decide (1 ≤ t) = true := by simpa using h1
      have g2 : decide (t ≤ 4) = false := by simp; omega
      clear h
      go_enter Try.func88, Try.ntmps88
      go_wp2
      go_ret
      exact ⟨by rw [HV.out]; rfl, rfl⟩
    · have g1 : decide (1 ≤ t) = false := by simpa using h1
      clear h
      go_enter Try.func88, Try.ntmps88
      go_wp2
      go_ret
      exact ⟨by rw [HV.out]; rfl, rfl⟩
  all_goals
    go_enter Try.func88, Try.ntmps88
    go_wp2
    go_ret
    exact ⟨rfl, rfl⟩
theorem refRef_any (t : Int) (w : World) : Calls Try.prog 71 #[.int .i64 t] w fun e w' => e = .returned (.bool (Ty.ref t)) ∧ w = w' := by
  unfold Ty.ref
  rcases h1 : (t == 3) with _ | _ <;> rcases h2 : (t == 4) with _ | _
  all_goals
    go_enter Try.func71, Try.ntmps71
    go_wp2
    go_ret
    exact ⟨rfl, rfl⟩
theorem refByte_any (t : Int) (w : World) : Calls Try.prog 65 #[.int .i64 t] w fun e w' => e = .returned (.tuple #[.int .u8 (Ty.byte t), .bool (Ty.val t)]) ∧ Below w.heap.size w w' := by
  rcases Ty.five t with rfl | rfl | rfl | rfl | h
  case inr.inr.inr.inr =>
    have HV := Lib.hid (Ty.byte_no h)
    have HB := Lib.hid (Ty.val_no h)
    clear h
    go_enter Try.func65, Try.ntmps65
    go_wp2_with (go_at_call 88; refine (refVal_any _ _).mono ?_; rintro e w1 ⟨rfl, rfl⟩; rw [HB.out])
    go_ret2
    exact ⟨by rw [HV.out, HB.out]; rfl, Below.refl _ _⟩
  all_goals
    go_enter Try.func65, Try.ntmps65
    go_wp2
    go_ret2
    exact ⟨rfl, (Below.refl _ _).alloc (Nat.le_refl _) _⟩

set_option maxHeartbeats 1000000 in
set_option maxRecDepth 100000 in
theorem refOfByte_any (b : Int) (w : World) : Calls Try.prog 56 #[.int .u8 b] w fun e w' => e = .returned (.tuple #[.int .i64 (Ty.ofByte b).1, .bool (Ty.ofByte b).2]) ∧ Below w.heap.size w w' := by
  rcases Ty.ways (p1 := Ty.byte 1 = b) (p2 := Ty.byte 2 = b) (p3 := Ty.byte 3 = b) (p4 := Ty.byte 4 = b) ((1, true) : Int × Bool) (2, true) (3, true) (4, true) (0, false) with ⟨a1, hv⟩ | ⟨a1, a2, hv⟩ | ⟨a1, a2, a3, hv⟩ | ⟨a1, a2, a3, a4, hv⟩ | ⟨a1, a2, a3, a4, hv⟩
  all_goals have HV := Lib.hid (show Ty.ofByte b = _ from hv)
  all_goals clear hv
  case inl =>
    have g1 : (Ty.byte 1 == b) = true := by simpa using a1
    clear a1
    have HB := Below.refl w.heap.size w
    go_enter Try.func56, Try.ntmps56
    go_wp2_with fail
    refine wp_loop_rounds 1 ?_
    iterate 1 (rw [rounds_succ]; go_wp2_with (go_at_call 65; refine (refByte_any _ _).mono ?_; rintro e w1 ⟨rfl, hb⟩; replace HB := HB.trans (hb.mono HB.size); clear hb))
    go_ret2
    exact ⟨by rw [HV.out]; rfl, HB⟩
  case inr.inl =>
    have g1 : (Ty.byte 1 == b) = false := by simpa using a1
    have g2 : (Ty.byte 2 == b) = true := by simpa using a2
    clear a1 a2
    have HB := Below.refl w.heap.size w
    go_enter Try.func56, Try.ntmps56
    go_wp2_with fail
    refine wp_loop_rounds 2 ?_
    iterate 2 (rw [rounds_succ]; go_wp2_with (go_at_call 65; refine (refByte_any _ _).mono ?_; rintro e w1 ⟨rfl, hb⟩; replace HB := HB.trans (hb.mono HB.size); clear hb))
    go_ret2
    exact ⟨by rw [HV.out]; rfl, HB⟩
  case inr.inr.inl =>
    have g1 : (Ty.byte 1 == b) = false := by simpa using a1
    have g2 : (Ty.byte 2 == b) = false := by simpa using a2
    have g3 : (Ty.byte 3 == b) = true := by simpa using a3
    clear a1 a2 a3
    have HB := Below.refl w.heap.size w
    go_enter Try.func56, Try.ntmps56
    go_wp2_with fail
    refine wp_loop_rounds 3 ?_
    iterate 3 (rw [rounds_succ]; go_wp2_with (go_at_call 65; refine (refByte_any _ _).mono ?_; rintro e w1 ⟨rfl, hb⟩; replace HB := HB.trans (hb.mono HB.size); clear hb))
    go_ret2
    exact ⟨by rw [HV.out]; rfl, HB⟩
  case inr.inr.inr.inl =>
    have g1 : (Ty.byte 1 == b) = false := by simpa using a1
    have g2 : (Ty.byte 2 == b) = false := by simpa using a2
    have g3 : (Ty.byte 3 == b) = false := by simpa using a3
    have g4 : (Ty.byte 4 == b) = true := by simpa using a4
    clear a1 a2 a3 a4
    have HB := Below.refl w.heap.size w
    go_enter Try.func56, Try.ntmps56
    go_wp2_with fail
    refine wp_loop_rounds 4 ?_
    iterate 4 (rw [rounds_succ]; go_wp2_with (go_at_call 65; refine (refByte_any _ _).mono ?_; rintro e w1 ⟨rfl, hb⟩; replace HB := HB.trans (hb.mono HB.size); clear hb))
    go_ret2
    exact ⟨by rw [HV.out]; rfl, HB⟩
  case inr.inr.inr.inr =>
    have g1 : (Ty.byte 1 == b) = false := by simpa using a1
    have g2 : (Ty.byte 2 == b) = false := by simpa using a2
    have g3 : (Ty.byte 3 == b) = false := by simpa using a3
    have g4 : (Ty.byte 4 == b) = false := by simpa using a4
    clear a1 a2 a3 a4
    have HB := Below.refl w.heap.size w
    go_enter Try.func56, Try.ntmps56
    go_wp2_with fail
    refine wp_loop_rounds 5 ?_
    iterate 5 (rw [rounds_succ]; go_wp2_with (go_at_call 65; refine (refByte_any _ _).mono ?_; rintro e w1 ⟨rfl, hb⟩; replace HB := HB.trans (hb.mono HB.size); clear hb))
    go_ret2
    exact ⟨by rw [HV.out]; rfl, HB⟩

end Go.Proofs.Ytagcildoebicnaa
