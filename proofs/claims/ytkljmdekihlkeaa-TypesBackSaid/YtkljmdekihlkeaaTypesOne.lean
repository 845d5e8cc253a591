/-
  Find and OfByte, and the reference's functions on value types.
-/
import Derived.Test.YtkljmdekihlkeaaTypesMore
import Derived.LoopN
set_option linter.unusedVariables false
namespace Go.Proofs.Ytkljmdekihlkeaa
open Go.RowKit

namespace Ty
def find (nm : List UInt8) : Int × Bool := if name 1 = nm then (1, true) else if name 2 = nm then (2, true) else if name 3 = nm then (3, true) else if name 4 = nm then (4, true) else (0, false)
def ofByte (b : Int) : Int × Bool := if byte 1 = b then (1, true) else if byte 2 = b then (2, true) else if byte 3 = b then (3, true) else if byte 4 = b then (4, true) else (0, false)
/-- The five ways through the search. -/
theorem ways {p1 p2 p3 p4 : Prop} [Decidable p1] [Decidable p2] [Decidable p3] [Decidable p4] {α : Type} (a b c d e : α) :
    (p1 ∧ (if p1 then a else if p2 then b else if p3 then c else if p4 then d else e) = a) ∨ (¬ p1 ∧ p2 ∧ (if p1 then a else if p2 then b else if p3 then c else if p4 then d else e) = b) ∨
    (¬ p1 ∧ ¬ p2 ∧ p3 ∧ (if p1 then a else if p2 then b else if p3 then c else if p4 then d else e) = c) ∨ (¬ p1 ∧ ¬ p2 ∧ ¬ p3 ∧ p4 ∧ (if p1 then a else if p2 then b else if p3 then c else if p4 then d else e) = d) ∨
    (¬ p1 ∧ ¬ p2 ∧ ¬ p3 ∧ ¬ p4 ∧ (if p1 then a else if p2 then b else if p3 then c else if p4 then d else e) = e) := by
  by_cases h1 : p1
  · exact .inl ⟨h1, if_pos h1⟩
  by_cases h2 : p2
  · exact .inr (.inl ⟨h1, h2, by rw [if_neg h1, if_pos h2]⟩)
  by_cases h3 : p3
  · exact .inr (.inr (.inl ⟨h1, h2, h3, by rw [if_neg h1, if_neg h2, if_pos h3]⟩))
  by_cases h4 : p4
  · exact .inr (.inr (.inr (.inl ⟨h1, h2, h3, h4, by rw [if_neg h1, if_neg h2, if_neg h3, if_pos h4]⟩)))
  exact .inr (.inr (.inr (.inr ⟨h1, h2, h3, h4, by rw [if_neg h1, if_neg h2, if_neg h3, if_neg h4]⟩)))
end Ty

set_option maxHeartbeats 1000000 in
set_option maxRecDepth 100000 in
theorem find_any (nm : List UInt8) (w : World) : Calls Try.prog 28 #[.string ⟨nm.toArray⟩] w fun e w' => e = .returned (.tuple #[.int .i64 (Ty.find nm).1, .bool (Ty.find nm).2]) ∧ w = w' := by
  rcases Ty.ways (p1 := Ty.name 1 = nm) (p2 := Ty.name 2 = nm) (p3 := Ty.name 3 = nm) (p4 := Ty.name 4 = nm) ((1, true) : Int × Bool) (2, true) (3, true) (4, true) (0, false) with ⟨a1, hv⟩ | ⟨a1, a2, hv⟩ | ⟨a1, a2, a3, hv⟩ | ⟨a1, a2, a3, a4, hv⟩ | ⟨a1, a2, a3, a4, hv⟩
  all_goals have HV := Lib.hid (show Ty.find nm = _ from hv)
  all_goals clear hv
  case inl =>
    have g1 : (Ty.name 1 == nm) = true := by simpa using a1
    clear a1
    go_enter Try.func28, Try.ntmps28
    go_wp2_with fail
    refine wp_loop_rounds 1 ?_
    rw [rounds_succ]
    go_wp2_with (go_at_call 38; refine (name_any _ _).mono ?_; rintro e w1 ⟨rfl, rfl⟩)
    go_ret2
    exact ⟨by rw [HV.out]; rfl, rfl⟩
  case inr.inl =>
    have g1 : (Ty.name 1 == nm) = false := by simpa using a1
    have g2 : (Ty.name 2 == nm) = true := by simpa using a2
    clear a1 a2
    go_enter Try.func28, Try.ntmps28
    go_wp2_with fail
    refine wp_loop_rounds 2 ?_
    iterate 2 (rw [rounds_succ]; go_wp2_with (go_at_call 38; refine (name_any _ _).mono ?_; rintro e w1 ⟨rfl, rfl⟩))
    go_ret2
    exact ⟨by rw [HV.out]; rfl, rfl⟩
  case inr.inr.inl =>
    have g1 : (Ty.name 1 == nm) = false := by simpa using a1
    have g2 : (Ty.name 2 == nm) = false := by simpa using a2
    have g3 : (Ty.name 3 == nm) = true := by simpa using a3
    clear a1 a2 a3
    go_enter Try.func28, Try.ntmps28
    go_wp2_with fail
    refine wp_loop_rounds 3 ?_
    iterate 3 (rw [rounds_succ]; go_wp2_with (go_at_call 38; refine (name_any _ _).mono ?_; rintro e w1 ⟨rfl, rfl⟩))
    go_ret2
    exact ⟨by rw [HV.out]; rfl, rfl⟩
  case inr.inr.inr.inl =>
    have g1 : (Ty.name 1 == nm) = false := by simpa using a1
    have g2 : (Ty.name 2 == nm) = false := by simpa using a2
    have g3 : (Ty.name 3 == nm) = false := by simpa using a3
    have g4 : (Ty.name 4 == nm) = true := by simpa using a4
    clear a1 a2 a3 a4
    go_enter Try.func28, Try.ntmps28
    go_wp2_with fail
    refine wp_loop_rounds 4 ?_
    iterate 4 (rw [rounds_succ]; go_wp2_with (go_at_call 38; refine (name_any _ _).mono ?_; rintro e w1 ⟨rfl, rfl⟩))
    go_ret2
    exact ⟨by rw [HV.out]; rfl, rfl⟩
  case inr.inr.inr.inr =>
    have g1 : (Ty.name 1 == nm) = false := by simpa using a1
    have g2 : (Ty.name 2 == nm) = false := by simpa using a2
    have g3 : (Ty.name 3 == nm) = false := by simpa using a3
    have g4 : (Ty.name 4 == nm) = false := by simpa using a4
    clear a1 a2 a3 a4
    go_enter Try.func28, Try.ntmps28
    go_wp2_with fail
    refine wp_loop_rounds 5 ?_
    iterate 5 (rw [rounds_succ]; go_wp2_with (go_at_call 38; refine (name_any _ _).mono ?_; rintro e w1 ⟨rfl, rfl⟩))
    go_ret2
    exact ⟨by rw [HV.out]; rfl, rfl⟩
set_option maxHeartbeats 1000000 in
set_option maxRecDepth 100000 in
theorem ofByte_any (b : Int) (w : World) : Calls Try.prog 30 #[.int .u8 b] w fun e w' => e = .returned (.tuple #[.int .i64 (Ty.ofByte b).1, .bool (Ty.ofByte b).2]) ∧ w = w' := by
  rcases Ty.ways (p1 := Ty.byte 1 = b) (p2 := Ty.byte 2 = b) (p3 := Ty.byte 3 = b) (p4 := Ty.byte 4 = b) ((1, true) : Int × Bool) (2, true) (3, true) (4, true) (0, false) with ⟨a1, hv⟩ | ⟨a1, a2, hv⟩ | ⟨a1, a2, a3, hv⟩ | ⟨a1, a2, a3, a4, hv⟩ | ⟨a1, a2, a3, a4, hv⟩
  all_goals have HV := Lib.hid (show Ty.ofByte b = _ from hv)
  all_goals clear hv
  case inl =>
    have g1 : (Ty.byte 1 == b) = true := by simpa using a1
    clear a1
    go_enter Try.func30, Try.ntmps30
    go_wp2_with fail
    refine wp_loop_rounds 1 ?_
    iterate 1 (rw [rounds_succ]; go_wp2_with (go_at_call 26; refine (byte_any _ _).mono ?_; rintro e w1 ⟨rfl, rfl⟩))
    go_ret2
    exact ⟨by rw [HV.out]; rfl, rfl⟩
  case inr.inl =>
    have g1 : (Ty.byte 1 == b) = false := by simpa using a1
    have g2 : (Ty.byte 2 == b) = true := by simpa using a2
    clear a1 a2
    go_enter Try.func30, Try.ntmps30
    go_wp2_with fail
    refine wp_loop_rounds 2 ?_
    iterate 2 (rw [rounds_succ]; go_wp2_with (go_at_call 26; refine (byte_any _ _).mono ?_; rintro e w1 ⟨rfl, rfl⟩))
    go_ret2
    exact ⟨by rw [HV.out]; rfl, rfl⟩
  case inr.inr.inl =>
    have g1 : (Ty.byte 1 == b) = false := by simpa using a1
    have g2 : (Ty.byte 2 == b) = false := by simpa using a2
    have g3 : (Ty.byte 3 == b) = true := by simpa using a3
    clear a1 a2 a3
    go_enter Try.func30, Try.ntmps30
    go_wp2_with fail
    refine wp_loop_rounds 3 ?_
    iterate 3 (rw [rounds_succ]; go_wp2_with (go_at_call 26; refine (byte_any _ _).mono ?_; rintro e w1 ⟨rfl, rfl⟩))
    go_ret2
    exact ⟨by rw [HV.out]; rfl, rfl⟩
  case inr.inr.inr.inl =>
    have g1 : (Ty.byte 1 == b) = false := by simpa using a1
    have g2 : (Ty.byte 2 == b) = false := by simpa using a2
    have g3 : (Ty.byte 3 == b) = false := by simpa using a3
    have g4 : (Ty.byte 4 == b) = true := by simpa using a4
    clear a1 a2 a3 a4
    go_enter Try.func30, Try.ntmps30
    go_wp2_with fail
    refine wp_loop_rounds 4 ?_
    iterate 4 (rw [rounds_succ]; go_wp2_with (go_at_call 26; refine (byte_any _ _).mono ?_; rintro e w1 ⟨rfl, rfl⟩))
    go_ret2
    exact ⟨by rw [HV.out]; rfl, rfl⟩
  case inr.inr.inr.inr =>
    have g1 : (Ty.byte 1 == b) = false := by simpa using a1
    have g2 : (Ty.byte 2 == b) = false := by simpa using a2
    have g3 : (Ty.byte 3 == b) = false := by simpa using a3
    have g4 : (Ty.byte 4 == b) = false := by simpa using a4
    clear a1 a2 a3 a4
    go_enter Try.func30, Try.ntmps30
    go_wp2_with fail
    refine wp_loop_rounds 5 ?_
    iterate 5 (rw [rounds_succ]; go_wp2_with (go_at_call 26; refine (byte_any _ _).mono ?_; rintro e w1 ⟨rfl, rfl⟩))
    go_ret2
    exact ⟨by rw [HV.out]; rfl, rfl⟩

theorem refVal_any (t : Int) (w : World) : Calls Try.prog 33 #[.int .i64 t] w fun e w' => e = .returned (.bool (Ty.val t)) ∧ w = w' := by
  rcases Ty.five t with rfl | rfl | rfl | rfl | h
  case inr.inr.inr.inr =>
    have HV := Lib.hid (Ty.val_no h)
    simp at h
    by_cases h1 : 1 ≤ t
    · have h2 : 4 < t := by omega
      have g1 : decide (1 ≤ t) = true := by simpa using h1
      have g2 : decide (t ≤ 4) = false := by simp; omega
      clear h
      go_enter Try.func33, Try.ntmps33
      go_wp2
      go_ret
      exact ⟨by rw [HV.out]; rfl, rfl⟩
    · have g1 : decide (1 ≤ t) = false := by simpa using h1
      clear h
      go_enter Try.func33, Try.ntmps33
      go_wp2
      go_ret
      exact ⟨by rw [HV.out]; rfl, rfl⟩
  all_goals
    go_enter Try.func33, Try.ntmps33
    go_wp2
    go_ret
    exact ⟨rfl, rfl⟩
theorem refNum_any (t : Int) (w : World) : Calls Try.prog 35 #[.int .i64 t] w fun e w' => e = .returned (.bool (Ty.num t)) ∧ w = w' := by
  unfold Ty.num
  rcases h1 : (t == 1) with _ | _ <;> rcases h2 : (t == 2) with _ | _
  all_goals
    go_enter Try.func35, Try.ntmps35
    go_wp2
    go_ret
    exact ⟨rfl, rfl⟩
theorem refRef_any (t : Int) (w : World) : Calls Try.prog 37 #[.int .i64 t] w fun e w' => e = .returned (.bool (Ty.ref t)) ∧ w = w' := by
  unfold Ty.ref
  rcases h1 : (t == 3) with _ | _ <;> rcases h2 : (t == 4) with _ | _
  all_goals
    go_enter Try.func37, Try.ntmps37
    go_wp2
    go_ret
    exact ⟨rfl, rfl⟩
theorem refName_any (t : Int) (w : World) : Calls Try.prog 39 #[.int .i64 t] w fun e w' => e = .returned (.string ⟨(Ty.name t).toArray⟩) ∧ Below w.heap.size w w' := by
  rcases Ty.five t with rfl | rfl | rfl | rfl | h
  case inr.inr.inr.inr =>
    have HV := Lib.hid (Ty.name_no h)
    have HB := Lib.hid (Ty.val_no h)
    clear h
    go_enter Try.func39, Try.ntmps39
    go_wp2_with (go_at_call 33; refine (refVal_any _ _).mono ?_; rintro e w1 ⟨rfl, rfl⟩; rw [HB.out])
    go_ret
    exact ⟨by rw [HV.out]; rfl, Below.refl _ _⟩
  all_goals
    go_enter Try.func39, Try.ntmps39
    go_wp2
    go_ret
    exact ⟨rfl, (Below.refl _ _).alloc (Nat.le_refl _) _⟩
theorem refByte_any (t : Int) (w : World) : Calls Try.prog 27 #[.int .i64 t] w fun e w' => e = .returned (.tuple #[.int .u8 (Ty.byte t), .bool (Ty.val t)]) ∧ Below w.heap.size w w' := by
  rcases Ty.five t with rfl | rfl | rfl | rfl | h
  case inr.inr.inr.inr =>
    have HV := Lib.hid (Ty.byte_no h)
    have HB := Lib.hid (Ty.val_no h)
    clear h
    go_enter Try.func27, Try.ntmps27
    go_wp2_with (go_at_call 33; refine (refVal_any _ _).mono ?_; rintro e w1 ⟨rfl, rfl⟩; rw [HB.out])
    go_ret2
    exact ⟨by rw [HV.out, HB.out]; rfl, Below.refl _ _⟩
  all_goals
    go_enter Try.func27, Try.ntmps27
    go_wp2
    go_ret2
    exact ⟨rfl, (Below.refl _ _).alloc (Nat.le_refl _) _⟩

set_option maxHeartbeats 1000000 in
set_option maxRecDepth 100000 in
theorem refFind_any (nm : List UInt8) (w : World) : Calls Try.prog 29 #[.string ⟨nm.toArray⟩] w fun e w' => e = .returned (.tuple #[.int .i64 (Ty.find nm).1, .bool (Ty.find nm).2]) ∧ Below w.heap.size w w' := by
  rcases Ty.ways (p1 := Ty.name 1 = nm) (p2 := Ty.name 2 = nm) (p3 := Ty.name 3 = nm) (p4 := Ty.name 4 = nm) ((1, true) : Int × Bool) (2, true) (3, true) (4, true) (0, false) with ⟨a1, hv⟩ | ⟨a1, a2, hv⟩ | ⟨a1, a2, a3, hv⟩ | ⟨a1, a2, a3, a4, hv⟩ | ⟨a1, a2, a3, a4, hv⟩
  all_goals have HV := Lib.hid (show Ty.find nm = _ from hv)
  all_goals clear hv
  case inl =>
    have g1 : (Ty.name 1 == nm) = true := by simpa using a1
    clear a1
    have HB := Below.refl w.heap.size w
    go_enter Try.func29, Try.ntmps29
    go_wp2_with fail
    refine wp_loop_rounds 1 ?_
    iterate 1 (rw [rounds_succ]; go_wp2_with (go_at_call 39; refine (refName_any _ _).mono ?_; rintro e w1 ⟨rfl, hb⟩; replace HB := HB.trans (hb.mono HB.size); clear hb))
    go_ret2
    exact ⟨by rw [HV.out]; rfl, HB⟩
  case inr.inl =>
    have g1 : (Ty.name 1 == nm) = false := by simpa using a1
    have g2 : (Ty.name 2 == nm) = true := by simpa using a2
    clear a1 a2
    have HB := Below.refl w.heap.size w
    go_enter Try.func29, Try.ntmps29
    go_wp2_with fail
    refine wp_loop_rounds 2 ?_
    iterate 2 (rw [rounds_succ]; go_wp2_with (go_at_call 39; refine (refName_any _ _).mono ?_; rintro e w1 ⟨rfl, hb⟩; replace HB := HB.trans (hb.mono HB.size); clear hb))
    go_ret2
    exact ⟨by rw [HV.out]; rfl, HB⟩
  case inr.inr.inl =>
    have g1 : (Ty.name 1 == nm) = false := by simpa using a1
    have g2 : (Ty.name 2 == nm) = false := by simpa using a2
    have g3 : (Ty.name 3 == nm) = true := by simpa using a3
    clear a1 a2 a3
    have HB := Below.refl w.heap.size w
    go_enter Try.func29, Try.ntmps29
    go_wp2_with fail
    refine wp_loop_rounds 3 ?_
    iterate 3 (rw [rounds_succ]; go_wp2_with (go_at_call 39; refine (refName_any _ _).mono ?_; rintro e w1 ⟨rfl, hb⟩; replace HB := HB.trans (hb.mono HB.size); clear hb))
    go_ret2
    exact ⟨by rw [HV.out]; rfl, HB⟩
  case inr.inr.inr.inl =>
    have g1 : (Ty.name 1 == nm) = false := by simpa using a1
    have g2 : (Ty.name 2 == nm) = false := by simpa using a2
    have g3 : (Ty.name 3 == nm) = false := by simpa using a3
    have g4 : (Ty.name 4 == nm) = true := by simpa using a4
    clear a1 a2 a3 a4
    have HB := Below.refl w.heap.size w
    go_enter Try.func29, Try.ntmps29
    go_wp2_with fail
    refine wp_loop_rounds 4 ?_
    iterate 4 (rw [rounds_succ]; go_wp2_with (go_at_call 39; refine (refName_any _ _).mono ?_; rintro e w1 ⟨rfl, hb⟩; replace HB := HB.trans (hb.mono HB.size); clear hb))
    go_ret2
    exact ⟨by rw [HV.out]; rfl, HB⟩
  case inr.inr.inr.inr =>
    have g1 : (Ty.name 1 == nm) = false := by simpa using a1
    have g2 : (Ty.name 2 == nm) = false := by simpa using a2
    have g3 : (Ty.name 3 == nm) = false := by simpa using a3
    have g4 : (Ty.name 4 == nm) = false := by simpa using a4
    clear a1 a2 a3 a4
    have HB := Below.refl w.heap.size w
    go_enter Try.func29, Try.ntmps29
    go_wp2_with fail
    refine wp_loop_rounds 5 ?_
    iterate 5 (rw [rounds_succ]; go_wp2_with (go_at_call 39; refine (refName_any _ _).mono ?_; rintro e w1 ⟨rfl, hb⟩; replace HB := HB.trans (hb.mono HB.size); clear hb))
    go_ret2
    exact ⟨by rw [HV.out]; rfl, HB⟩

set_option maxHeartbeats 1000000 in
set_option maxRecDepth 100000 in
theorem refOfByte_any (b : Int) (w : World) : Calls Try.prog 31 #[.int .u8 b] w fun e w' => e = .returned (.tuple #[.int .i64 (Ty.ofByte b).1, .bool (Ty.ofByte b).2]) ∧ Below w.heap.size w w' := by
  rcases Ty.ways (p1 := Ty.byte 1 = b) (p2 := Ty.byte 2 = b) (p3 := Ty.byte 3 = b) (p4 := Ty.byte 4 = b) ((1, true) : Int × Bool) (2, true) (3, true) (4, true) (0, false) with ⟨a1, hv⟩ | ⟨a1, a2, hv⟩ | ⟨a1, a2, a3, hv⟩ | ⟨a1, a2, a3, a4, hv⟩ | ⟨a1, a2, a3, a4, hv⟩
  all_goals have HV := Lib.hid (show Ty.ofByte b = _ from hv)
  all_goals clear hv
  case inl =>
    have g1 : (Ty.byte 1 == b) = true := by simpa using a1
    clear a1
    have HB := Below.refl w.heap.size w
    go_enter Try.func31, Try.ntmps31
    go_wp2_with fail
    refine wp_loop_rounds 1 ?_
    iterate 1 (rw [rounds_succ]; go_wp2_with (go_at_call 27; refine (refByte_any _ _).mono ?_; rintro e w1 ⟨rfl, hb⟩; replace HB := HB.trans (hb.mono HB.size); clear hb))
    go_ret2
    exact ⟨by rw [HV.out]; rfl, HB⟩
  case inr.inl =>
    have g1 : (Ty.byte 1 == b) = false := by simpa using a1
    have g2 : (Ty.byte 2 == b) = true := by simpa using a2
    clear a1 a2
    have HB := Below.refl w.heap.size w
    go_enter Try.func31, Try.ntmps31
    go_wp2_with fail
    refine wp_loop_rounds 2 ?_
    iterate 2 (rw [rounds_succ]; go_wp2_with (go_at_call 27; refine (refByte_any _ _).mono ?_; rintro e w1 ⟨rfl, hb⟩; replace HB := HB.trans (hb.mono HB.size); clear hb))
    go_ret2
    exact ⟨by rw [HV.out]; rfl, HB⟩
  case inr.inr.inl =>
    have g1 : (Ty.byte 1 == b) = false := by simpa using a1
    have g2 : (Ty.byte 2 == b) = false := by simpa using a2
    have g3 : (Ty.byte 3 == b) = true := by simpa using a3
    clear a1 a2 a3
    have HB := Below.refl w.heap.size w
    go_enter Try.func31, Try.ntmps31
    go_wp2_with fail
    refine wp_loop_rounds 3 ?_
    iterate 3 (rw [rounds_succ]; go_wp2_with (go_at_call 27; refine (refByte_any _ _).mono ?_; rintro e w1 ⟨rfl, hb⟩; replace HB := HB.trans (hb.mono HB.size); clear hb))
    go_ret2
    exact ⟨by rw [HV.out]; rfl, HB⟩
  case inr.inr.inr.inl =>
    have g1 : (Ty.byte 1 == b) = false := by simpa using a1
    have g2 : (Ty.byte 2 == b) = false := by simpa using a2
    have g3 : (Ty.byte 3 == b) = false := by simpa using a3
    have g4 : (Ty.byte 4 == b) = true := by simpa using a4
    clear a1 a2 a3 a4
    have HB := Below.refl w.heap.size w
    go_enter Try.func31, Try.ntmps31
    go_wp2_with fail
    refine wp_loop_rounds 4 ?_
    iterate 4 (rw [rounds_succ]; go_wp2_with (go_at_call 27; refine (refByte_any _ _).mono ?_; rintro e w1 ⟨rfl, hb⟩; replace HB := HB.trans (hb.mono HB.size); clear hb))
    go_ret2
    exact ⟨by rw [HV.out]; rfl, HB⟩
  case inr.inr.inr.inr =>
    have g1 : (Ty.byte 1 == b) = false := by simpa using a1
    have g2 : (Ty.byte 2 == b) = false := by simpa using a2
    have g3 : (Ty.byte 3 == b) = false := by simpa using a3
    have g4 : (Ty.byte 4 == b) = false := by simpa using a4
    clear a1 a2 a3 a4
    have HB := Below.refl w.heap.size w
    go_enter Try.func31, Try.ntmps31
    go_wp2_with fail
    refine wp_loop_rounds 5 ?_
    iterate 5 (rw [rounds_succ]; go_wp2_with (go_at_call 27; refine (refByte_any _ _).mono ?_; rintro e w1 ⟨rfl, hb⟩; replace HB := HB.trans (hb.mono HB.size); clear hb))
    go_ret2
    exact ⟨by rw [HV.out]; rfl, HB⟩

set_option maxHeartbeats 2000000 in
set_option maxRecDepth 100000 in
theorem typesOne_walk (t : Int) (nm : List UInt8) (b : Int) (w : World) (hl : nm.length ≤ 9223372036854775807) :
    Calls Try.prog 6 #[.int .i64 t, .string ⟨nm.toArray⟩, .int .u8 b] w fun e w' => e = .returned (.bool true) ∧ Below w.heap.size w w' := by
  by_cases h1 : 100 < nm.length
  · go_enter Try.func6, Try.ntmps6
    go_wp2_with (go_at_call 9; refine (alive_any _).mono ?_; rintro e w1 ⟨rfl, hb⟩)
    go_ret
    exact ⟨rfl, hb⟩
  have g1 : decide ((100 : Int) < (nm.length : Int)) = false := by simp; omega
  clear hl h1
  obtain ⟨⟨f1, f2⟩, hf⟩ : ∃ x, Ty.find nm = x := ⟨_, rfl⟩
  obtain ⟨⟨o1, o2⟩, ho⟩ : ∃ x, Ty.ofByte b = x := ⟨_, rfl⟩
  obtain ⟨by_, hby⟩ : ∃ x, Ty.byte t = x := ⟨_, rfl⟩
  obtain ⟨vl, hvl⟩ : ∃ x, Ty.val t = x := ⟨_, rfl⟩
  obtain ⟨nu, hnu⟩ : ∃ x, Ty.num t = x := ⟨_, rfl⟩
  obtain ⟨re, hre⟩ : ∃ x, Ty.ref t = x := ⟨_, rfl⟩
  obtain ⟨na, hna⟩ : ∃ x, Ty.name t = x := ⟨_, rfl⟩
  have HF := Lib.hid hf
  have HO := Lib.hid ho
  have HBY := Lib.hid hby
  have HVL := Lib.hid hvl
  have HNU := Lib.hid hnu
  have HRE := Lib.hid hre
  have HNA := Lib.hid hna
  clear hf ho hby hvl hnu hre hna
  have HB := Below.refl w.heap.size w
  go_enter Try.func6, Try.ntmps6
  go_wp2_with (first
    | (go_at_call 26; refine (byte_any t _).mono ?_; rintro e w1 ⟨rfl, rfl⟩; rw [HBY.out, HVL.out])
    | (go_at_call 27; refine (refByte_any t _).mono ?_; rintro e w1 ⟨rfl, hb⟩; replace HB := HB.trans (hb.mono HB.size); clear hb; rw [HBY.out, HVL.out])
    | (go_at_call 28; refine (find_any nm _).mono ?_; rintro e w1 ⟨rfl, rfl⟩; rw [HF.out])
    | (go_at_call 29; refine (refFind_any nm _).mono ?_; rintro e w1 ⟨rfl, hb⟩; replace HB := HB.trans (hb.mono HB.size); clear hb; rw [HF.out])
    | (go_at_call 30; refine (ofByte_any b _).mono ?_; rintro e w1 ⟨rfl, rfl⟩; rw [HO.out])
    | (go_at_call 31; refine (refOfByte_any b _).mono ?_; rintro e w1 ⟨rfl, hb⟩; replace HB := HB.trans (hb.mono HB.size); clear hb; rw [HO.out])
    | (go_at_call 32; refine (val_any t _).mono ?_; rintro e w1 ⟨rfl, rfl⟩; rw [HVL.out])
    | (go_at_call 33; refine (refVal_any t _).mono ?_; rintro e w1 ⟨rfl, rfl⟩; rw [HVL.out])
    | (go_at_call 34; refine (num_any t _).mono ?_; rintro e w1 ⟨rfl, rfl⟩; rw [HNU.out])
    | (go_at_call 35; refine (refNum_any t _).mono ?_; rintro e w1 ⟨rfl, rfl⟩; rw [HNU.out])
    | (go_at_call 36; refine (ref_any t _).mono ?_; rintro e w1 ⟨rfl, rfl⟩; rw [HRE.out])
    | (go_at_call 37; refine (refRef_any t _).mono ?_; rintro e w1 ⟨rfl, rfl⟩; rw [HRE.out])
    | (go_at_call 38; refine (name_any t _).mono ?_; rintro e w1 ⟨rfl, rfl⟩; rw [HNA.out])
    | (go_at_call 39; refine (refName_any t _).mono ?_; rintro e w1 ⟨rfl, hb⟩; replace HB := HB.trans (hb.mono HB.size); clear hb; rw [HNA.out])
    | (go_at_call 9; refine (alive_any _).mono ?_; rintro e w1 ⟨rfl, hb⟩; replace HB := HB.trans (hb.mono HB.size); clear hb))
  go_ret
  exact ⟨rfl, HB⟩
end Go.Proofs.Ytkljmdekihlkeaa
