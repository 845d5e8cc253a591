/-
  The walk of the law TypesFuncs.
-/
import Derived.Test.YtkljmdekihlkeaaTypesRefText
import Derived.Deep.RegionHeld3
set_option linter.unusedVariables false
namespace Go.Proofs.Ytkljmdekihlkeaa
open Go.RowKit

/-- The world W behind w holds the two boxes' cells; the four lists read as they did; below w's heap it is as w was. -/
structure Im2 (w W : World) (A1 A2 B1 B2 : Option Addr) (c1 c2 d1 d2 : Nat) (ps rs qs ss : List Int) : Prop where
  e0 : W.cell? ⟨w.heap.size, 0, none⟩ = some (.slice A1 ps.length c1)
  e1 : W.cell? ⟨w.heap.size, 1, none⟩ = some (.slice A2 rs.length c2)
  e2 : W.cell? ⟨w.heap.size + 1, 0, none⟩ = some (.slice B1 qs.length d1)
  e3 : W.cell? ⟨w.heap.size + 1, 1, none⟩ = some (.slice B2 ss.length d2)
  r0 : RdI W w.heap.size A1 ps
  r1 : RdI W w.heap.size A2 rs
  r2 : RdI W w.heap.size B1 qs
  r3 : RdI W w.heap.size B2 ss
  sz : w.heap.size + 2 ≤ W.heap.size
  bel : Below w.heap.size w W
theorem Im2.step {w W w1 : World} {A1 A2 B1 B2 : Option Addr} {c1 c2 d1 d2 : Nat} {ps rs qs ss : List Int} (h : Im2 w W A1 A2 B1 B2 c1 c2 d1 d2 ps rs qs ss) (hb : Below W.heap.size W w1) : Im2 w w1 A1 A2 B1 B2 c1 c2 d1 d2 ps rs qs ss :=
  have s := h.sz
  have b := hb.mono h.bel.size
  ⟨(hb.cell (p := ⟨w.heap.size, 0, none⟩) (by show w.heap.size < _; omega)).trans h.e0, (hb.cell (p := ⟨w.heap.size, 1, none⟩) (by show w.heap.size < _; omega)).trans h.e1, (hb.cell (p := ⟨w.heap.size + 1, 0, none⟩) (by show w.heap.size + 1 < _; omega)).trans h.e2, (hb.cell (p := ⟨w.heap.size + 1, 1, none⟩) (by show w.heap.size + 1 < _; omega)).trans h.e3, h.r0.below b, h.r1.below b, h.r2.below b, h.r3.below b, Nat.le_trans s hb.size, h.bel.trans b⟩
theorem Im2.drew {w W : World} {A1 A2 B1 B2 : Option Addr} {c1 c2 d1 d2 : Nat} {ps rs qs ss : List Int} (h : Im2 w W A1 A2 B1 B2 c1 c2 d1 d2 ps rs qs ss) : Im2 w W.drew A1 A2 B1 B2 c1 c2 d1 d2 ps rs qs ss := ⟨h.e0, h.e1, h.e2, h.e3, h.r0.below (Below.refl _ _).drew, h.r1.below (Below.refl _ _).drew, h.r2.below (Below.refl _ _).drew, h.r3.below (Below.refl _ _).drew, h.sz, h.bel.drew⟩
theorem Im2.two (w : World) (A1 A2 B1 B2 : Option Addr) (c1 c2 d1 d2 : Nat) (ps rs qs ss : List Int) (h0 : RdI w w.heap.size A1 ps) (h1 : RdI w w.heap.size A2 rs) (h2 : RdI w w.heap.size B1 qs) (h3 : RdI w w.heap.size B2 ss) : Im2 w ((w.alloc (.cells #[.slice A1 ps.length c1, .slice A2 rs.length c2] 41)).alloc (.cells #[.slice B1 qs.length d1, .slice B2 ss.length d2] 41)) A1 A2 B1 B2 c1 c2 d1 d2 ps rs qs ss := by
  refine ⟨?_, ?_, ?_, ?_, two_rdi h0 _ _, two_rdi h1 _ _, two_rdi h2 _ _, two_rdi h3 _ _, by simp, ((Below.refl _ _).alloc (Nat.le_refl _) _).alloc (by simp) _⟩ <;> go_simp

set_option maxHeartbeats 20000000 in
set_option maxRecDepth 100000 in
theorem funcs_no1 (A1 A2 B1 B2 : Option Addr) (c1 c2 d1 d2 : Nat) (ps rs qs ss : List Int) (w : World) (h0 : RdI w w.heap.size A1 ps) (h1 : RdI w w.heap.size A2 rs) (h2 : RdI w w.heap.size B1 qs) (h3 : RdI w w.heap.size B2 ss) (k1 : (decide (ps.length ≤ 100) && decide (rs.length ≤ 100)) = false) :
    Calls Try.prog 5 #[.agg #[.slice A1 ps.length c1, .slice A2 rs.length c2], .agg #[.slice B1 qs.length d1, .slice B2 ss.length d2]] w fun e w' => e = .returned (.bool true) ∧ Below w.heap.size w w' := by
  have F1 : Hid (∀ W : World, Calls Try.prog 17 #[.agg #[.slice A1 ps.length c1, .slice A2 rs.length c2]] W fun e w' => e = .returned (.bool false) ∧ Below W.heap.size W w') := fun W => by have := few_any A1 A2 c1 c2 ps.length rs.length W; rw [k1] at this; exact this
  clear k1
  have I0 := Im2.two w A1 A2 B1 B2 c1 c2 d1 d2 ps rs qs ss h0 h1 h2 h3
  go_enter Try.func5, Try.ntmps5
  go_wp2_with fail
  generalize (w.alloc (.cells #[.slice A1 ps.length c1, .slice A2 rs.length c2] 41)).alloc (.cells #[.slice B1 qs.length d1, .slice B2 ss.length d2] 41) = W0 at I0 ⊢
  obtain ⟨e0, e1, e2, e3, r0, r1, r2, r3, sz, bel⟩ := id I0
  go_wp2_with (first
    | (go_at_call 17; (with_reducible refine (F1.out _).mono ?_); rintro e w1 ⟨rfl, hb1⟩; have I1 := I0.step hb1; clear e0 e1 e2 e3 r0 r1 r2 r3 sz bel; obtain ⟨e0, e1, e2, e3, r0, r1, r2, r3, sz, bel⟩ := id I1; clear hb1 I0)
    | (go_at_call 9; refine (alive_any _).mono ?_; rintro e w2 ⟨rfl, hb2⟩; have I2 := I1.step hb2; clear e0 e1 e2 e3 r0 r1 r2 r3 sz bel; obtain ⟨e0, e1, e2, e3, r0, r1, r2, r3, sz, bel⟩ := id I2; clear hb2 I1))
  go_ret
  exact ⟨rfl, bel⟩

set_option maxHeartbeats 20000000 in
set_option maxRecDepth 100000 in
theorem funcs_no2 (A1 A2 B1 B2 : Option Addr) (c1 c2 d1 d2 : Nat) (ps rs qs ss : List Int) (w : World) (h0 : RdI w w.heap.size A1 ps) (h1 : RdI w w.heap.size A2 rs) (h2 : RdI w w.heap.size B1 qs) (h3 : RdI w w.heap.size B2 ss) (k1 : (decide (ps.length ≤ 100) && decide (rs.length ≤ 100)) = true) (k2 : (decide (qs.length ≤ 100) && decide (ss.length ≤ 100)) = false) :
    Calls Try.prog 5 #[.agg #[.slice A1 ps.length c1, .slice A2 rs.length c2], .agg #[.slice B1 qs.length d1, .slice B2 ss.length d2]] w fun e w' => e = .returned (.bool true) ∧ Below w.heap.size w w' := by
  have F1 : Hid (∀ W : World, Calls Try.prog 17 #[.agg #[.slice A1 ps.length c1, .slice A2 rs.length c2]] W fun e w' => e = .returned (.bool true) ∧ Below W.heap.size W w') := fun W => by have := few_any A1 A2 c1 c2 ps.length rs.length W; rw [k1] at this; exact this
  have F2 : Hid (∀ W : World, Calls Try.prog 17 #[.agg #[.slice B1 qs.length d1, .slice B2 ss.length d2]] W fun e w' => e = .returned (.bool false) ∧ Below W.heap.size W w') := fun W => by have := few_any B1 B2 d1 d2 qs.length ss.length W; rw [k2] at this; exact this
  clear k1 k2
  have I0 := Im2.two w A1 A2 B1 B2 c1 c2 d1 d2 ps rs qs ss h0 h1 h2 h3
  go_enter Try.func5, Try.ntmps5
  go_wp2_with fail
  generalize (w.alloc (.cells #[.slice A1 ps.length c1, .slice A2 rs.length c2] 41)).alloc (.cells #[.slice B1 qs.length d1, .slice B2 ss.length d2] 41) = W0 at I0 ⊢
  obtain ⟨e0, e1, e2, e3, r0, r1, r2, r3, sz, bel⟩ := id I0
  go_wp2_with (first
    | (go_at_call 17; (with_reducible refine (F1.out _).mono ?_); rintro e w1 ⟨rfl, hb1⟩; have I1 := I0.step hb1; clear e0 e1 e2 e3 r0 r1 r2 r3 sz bel; obtain ⟨e0, e1, e2, e3, r0, r1, r2, r3, sz, bel⟩ := id I1; clear hb1 I0; clear F1)
    | (go_at_call 17; (with_reducible refine (F2.out _).mono ?_); rintro e w2 ⟨rfl, hb2⟩; have I2 := I1.step hb2; clear e0 e1 e2 e3 r0 r1 r2 r3 sz bel; obtain ⟨e0, e1, e2, e3, r0, r1, r2, r3, sz, bel⟩ := id I2; clear hb2 I1)
    | (go_at_call 9; refine (alive_any _).mono ?_; rintro e w3 ⟨rfl, hb3⟩; have I3 := I2.step hb3; clear e0 e1 e2 e3 r0 r1 r2 r3 sz bel; obtain ⟨e0, e1, e2, e3, r0, r1, r2, r3, sz, bel⟩ := id I3; clear hb3 I2))
  go_ret
  exact ⟨rfl, bel⟩

set_option maxHeartbeats 20000000 in
set_option maxRecDepth 100000 in
theorem funcs_yes (A1 A2 B1 B2 : Option Addr) (c1 c2 d1 d2 : Nat) (ps rs qs ss : List Int) (w : World) (h0 : RdI w w.heap.size A1 ps) (h1 : RdI w w.heap.size A2 rs) (h2 : RdI w w.heap.size B1 qs) (h3 : RdI w w.heap.size B2 ss) (l1 : ps.length ≤ 100) (l2 : rs.length ≤ 100) (l3 : qs.length ≤ 100) (l4 : ss.length ≤ 100) :
    Calls Try.prog 5 #[.agg #[.slice A1 ps.length c1, .slice A2 rs.length c2], .agg #[.slice B1 qs.length d1, .slice B2 ss.length d2]] w fun e w' => e = .returned (.bool true) ∧ Below w.heap.size w w' := by
  have k1 : (decide (ps.length ≤ 100) && decide (rs.length ≤ 100)) = true := by simp; omega
  have k2 : (decide (qs.length ≤ 100) && decide (ss.length ≤ 100)) = true := by simp; omega
  have F1 : Hid (∀ W : World, Calls Try.prog 17 #[.agg #[.slice A1 ps.length c1, .slice A2 rs.length c2]] W fun e w' => e = .returned (.bool true) ∧ Below W.heap.size W w') := fun W => by have := few_any A1 A2 c1 c2 ps.length rs.length W; rw [k1] at this; exact this
  have F2 : Hid (∀ W : World, Calls Try.prog 17 #[.agg #[.slice B1 qs.length d1, .slice B2 ss.length d2]] W fun e w' => e = .returned (.bool true) ∧ Below W.heap.size W w') := fun W => by have := few_any B1 B2 d1 d2 qs.length ss.length W; rw [k2] at this; exact this
  obtain ⟨xs, hxs⟩ : ∃ x, (decide (ps = qs) && decide (rs = ss)) = x := ⟨_, rfl⟩
  obtain ⟨xv, hxv⟩ : ∃ x, decide (ps = ss) = x := ⟨_, rfl⟩
  obtain ⟨xr, hxr⟩ : ∃ x, (Ty.right ps && Ty.right rs) = x := ⟨_, rfl⟩
  obtain ⟨xt, hxt⟩ : ∃ x, Ty.text ps rs = x := ⟨_, rfl⟩
  have C1 : Hid (∀ W : World, Im2 w W A1 A2 B1 B2 c1 c2 d1 d2 ps rs qs ss → Calls Try.prog 18 #[.agg #[.slice A1 ps.length c1, .slice A2 rs.length c2], .agg #[.slice B1 qs.length d1, .slice B2 ss.length d2]] W fun e w' => e = .returned (.bool xs) ∧ Below W.heap.size W w') := fun W I => by have s := I.bel.size; have := typesSame_any A1 A2 B1 B2 c1 c2 d1 d2 ps rs qs ss W (I.r0.more s) (I.r1.more s) (I.r2.more s) (I.r3.more s) (by omega) (by omega); rw [hxs] at this; exact this
  have C2 : Hid (∀ W : World, Im2 w W A1 A2 B1 B2 c1 c2 d1 d2 ps rs qs ss → Calls Try.prog 19 #[.agg #[.slice A1 ps.length c1, .slice A2 rs.length c2], .agg #[.slice B1 qs.length d1, .slice B2 ss.length d2]] W fun e w' => e = .returned (.bool xs) ∧ Below W.heap.size W w') := fun W I => by have s := I.bel.size; have := refSame_any A1 A2 B1 B2 c1 c2 d1 d2 ps rs qs ss W (I.r0.more s) (I.r1.more s) (I.r2.more s) (I.r3.more s) (by omega) (by omega); rw [hxs] at this; exact this
  have C3 : Hid (∀ W : World, Im2 w W A1 A2 B1 B2 c1 c2 d1 d2 ps rs qs ss → Calls Try.prog 20 #[.slice A1 ps.length c1, .slice B2 ss.length d2] W fun e w' => e = .returned (.bool xv) ∧ Below W.heap.size W w') := fun W I => by have s := I.bel.size; have := (sameVals_any A1 B2 c1 d2 ps ss W _ I.r0 I.r3 (by omega)).mono (fun e w' h => (⟨h.1, h.2 ▸ Below.refl _ _⟩ : e = .returned (.bool (decide (ps = ss))) ∧ Below W.heap.size W w')); rw [hxv] at this; exact this
  have C4 : Hid (∀ W : World, Im2 w W A1 A2 B1 B2 c1 c2 d1 d2 ps rs qs ss → Calls Try.prog 21 #[.slice A1 ps.length c1, .slice B2 ss.length d2] W fun e w' => e = .returned (.bool xv) ∧ Below W.heap.size W w') := fun W I => by have s := I.bel.size; have := (refSameVals_any A1 B2 c1 d2 ps ss W _ I.r0 I.r3 (by omega)).mono (fun e w' h => (⟨h.1, by obtain ⟨q, rfl⟩ := h.2; exact below_drewN_ (Below.refl _ _) q⟩ : e = .returned (.bool (decide (ps = ss))) ∧ Below W.heap.size W w')); rw [hxv] at this; exact this
  have C5 : Hid (∀ W : World, Im2 w W A1 A2 B1 B2 c1 c2 d1 d2 ps rs qs ss → Calls Try.prog 22 #[.agg #[.slice A1 ps.length c1, .slice A2 rs.length c2]] W fun e w' => e = .returned (.bool xr) ∧ Below W.heap.size W w') := fun W I => by have s := I.bel.size; have := right_any A1 A2 c1 c2 ps rs W (I.r0.more s) (I.r1.more s) (by omega) (by omega); rw [hxr] at this; exact this
  have C6 : Hid (∀ W : World, Im2 w W A1 A2 B1 B2 c1 c2 d1 d2 ps rs qs ss → Calls Try.prog 23 #[.agg #[.slice A1 ps.length c1, .slice A2 rs.length c2]] W fun e w' => e = .returned (.bool xr) ∧ Below W.heap.size W w') := fun W I => by have s := I.bel.size; have := refRight_any A1 A2 c1 c2 ps rs W (I.r0.more s) (I.r1.more s) (by omega) (by omega); rw [hxr] at this; exact this
  have C7 : Hid (∀ W : World, Im2 w W A1 A2 B1 B2 c1 c2 d1 d2 ps rs qs ss → Calls Try.prog 24 #[.agg #[.slice A1 ps.length c1, .slice A2 rs.length c2]] W fun e w' => e = .returned (.string ⟨xt.toArray⟩) ∧ Below W.heap.size W w') := fun W I => by have s := I.bel.size; have := text_any A1 A2 c1 c2 ps rs W (I.r0.more s) (I.r1.more s) (by omega) (by omega); rw [hxt] at this; exact this
  have C8 : Hid (∀ W : World, Im2 w W A1 A2 B1 B2 c1 c2 d1 d2 ps rs qs ss → Calls Try.prog 25 #[.agg #[.slice A1 ps.length c1, .slice A2 rs.length c2]] W fun e w' => e = .returned (.string ⟨xt.toArray⟩) ∧ Below W.heap.size W w') := fun W I => by have s := I.bel.size; have := refText_any A1 A2 c1 c2 ps rs W (I.r0.more s) (I.r1.more s) (by omega) (by omega); rw [hxt] at this; exact this
  have C9 : Hid (∀ W : World, Im2 w W A1 A2 B1 B2 c1 c2 d1 d2 ps rs qs ss → Calls Try.prog 18 #[.agg #[.slice A1 ps.length c1, .slice A2 rs.length c2], .agg #[.slice A1 ps.length c1, .slice A2 rs.length c2]] W fun e w' => e = .returned (.bool true) ∧ Below W.heap.size W w') := fun W I => by have s := I.bel.size; have := typesSame_any A1 A2 A1 A2 c1 c2 c1 c2 ps rs ps rs W (I.r0.more s) (I.r1.more s) (I.r0.more s) (I.r1.more s) (by omega) (by omega); simp only [decide_true, Bool.and_self] at this; exact this
  clear hxs hxv hxr hxt k1 k2
  have I0 := Im2.two w A1 A2 B1 B2 c1 c2 d1 d2 ps rs qs ss h0 h1 h2 h3
  go_enter Try.func5, Try.ntmps5
  go_wp2_with fail
  generalize (w.alloc (.cells #[.slice A1 ps.length c1, .slice A2 rs.length c2] 41)).alloc (.cells #[.slice B1 qs.length d1, .slice B2 ss.length d2] 41) = W0 at I0 ⊢
  obtain ⟨e0, e1, e2, e3, r0, r1, r2, r3, sz, bel⟩ := id I0
  go_wp2_with (first
    | (go_at_call 17; (with_reducible refine (F1.out _).mono ?_); rintro e w1 ⟨rfl, hb1⟩; have I1 := I0.step hb1; clear e0 e1 e2 e3 r0 r1 r2 r3 sz bel; obtain ⟨e0, e1, e2, e3, r0, r1, r2, r3, sz, bel⟩ := id I1; clear hb1 I0; clear F1)
    | (go_at_call 17; (with_reducible refine (F2.out _).mono ?_); rintro e w2 ⟨rfl, hb2⟩; have I2 := I1.step hb2; clear e0 e1 e2 e3 r0 r1 r2 r3 sz bel; obtain ⟨e0, e1, e2, e3, r0, r1, r2, r3, sz, bel⟩ := id I2; clear hb2 I1; clear F2))
  go_region_held3 (fun w' => w'.cell? ⟨w.heap.size, 0, none⟩ = some (.slice A1 ps.length c1) ∧ w'.cell? ⟨w.heap.size, 1, none⟩ = some (.slice A2 rs.length c2) ∧ w'.cell? ⟨w.heap.size + 1, 0, none⟩ = some (.slice B1 qs.length d1) ∧ w'.cell? ⟨w.heap.size + 1, 1, none⟩ = some (.slice B2 ss.length d2))
    (go_keep)
    (first
      | (go_at_call 18; (with_reducible refine (C1.out _ I2.drew).mono ?_); rintro e w3 ⟨rfl, hb3⟩; have I3 := I2.drew.step hb3; clear e0 e1 e2 e3 r0 r1 r2 r3 sz bel; obtain ⟨e0, e1, e2, e3, r0, r1, r2, r3, sz, bel⟩ := id I3; clear hb3 I2; clear C1)
      | (go_at_call 19; (with_reducible refine (C2.out _ I3).mono ?_); rintro e w4 ⟨rfl, hb4⟩; have I4 := I3.step hb4; clear e0 e1 e2 e3 r0 r1 r2 r3 sz bel; obtain ⟨e0, e1, e2, e3, r0, r1, r2, r3, sz, bel⟩ := id I4; clear hb4 I3; clear C2)
      | (go_at_call 20; (with_reducible refine (C3.out _ I4).mono ?_); rintro e w5 ⟨rfl, hb5⟩; have I5 := I4.step hb5; clear e0 e1 e2 e3 r0 r1 r2 r3 sz bel; obtain ⟨e0, e1, e2, e3, r0, r1, r2, r3, sz, bel⟩ := id I5; clear hb5 I4; clear C3)
      | (go_at_call 21; (with_reducible refine (C4.out _ I5).mono ?_); rintro e w6 ⟨rfl, hb6⟩; have I6 := I5.step hb6; clear e0 e1 e2 e3 r0 r1 r2 r3 sz bel; obtain ⟨e0, e1, e2, e3, r0, r1, r2, r3, sz, bel⟩ := id I6; clear hb6 I5; clear C4)
      | (go_at_call 22; (with_reducible refine (C5.out _ I6).mono ?_); rintro e w7 ⟨rfl, hb7⟩; have I7 := I6.step hb7; clear e0 e1 e2 e3 r0 r1 r2 r3 sz bel; obtain ⟨e0, e1, e2, e3, r0, r1, r2, r3, sz, bel⟩ := id I7; clear hb7 I6; clear C5)
      | (go_at_call 23; (with_reducible refine (C6.out _ I7).mono ?_); rintro e w8 ⟨rfl, hb8⟩; have I8 := I7.step hb8; clear e0 e1 e2 e3 r0 r1 r2 r3 sz bel; obtain ⟨e0, e1, e2, e3, r0, r1, r2, r3, sz, bel⟩ := id I8; clear hb8 I7; clear C6)
      | (go_at_call 24; (with_reducible refine (C7.out _ I8).mono ?_); rintro e w9 ⟨rfl, hb9⟩; have I9 := I8.step hb9; clear e0 e1 e2 e3 r0 r1 r2 r3 sz bel; obtain ⟨e0, e1, e2, e3, r0, r1, r2, r3, sz, bel⟩ := id I9; clear hb9 I8; clear C7)
      | (go_at_call 25; (with_reducible refine (C8.out _ I9).mono ?_); rintro e w10 ⟨rfl, hb10⟩; have I10 := I9.step hb10; clear e0 e1 e2 e3 r0 r1 r2 r3 sz bel; obtain ⟨e0, e1, e2, e3, r0, r1, r2, r3, sz, bel⟩ := id I10; clear hb10 I9; clear C8)
      | (go_at_call 18; (with_reducible refine (C9.out _ I10).mono ?_); rintro e w11 ⟨rfl, hb11⟩; have I11 := I10.step hb11; clear e0 e1 e2 e3 r0 r1 r2 r3 sz bel; obtain ⟨e0, e1, e2, e3, r0, r1, r2, r3, sz, bel⟩ := id I11; clear hb11 I10; clear C9)
      | (go_at_call 9; refine (alive_any _).mono ?_; rintro e w12 ⟨rfl, hb12⟩; have I12 := I11.step hb12; clear e0 e1 e2 e3 r0 r1 r2 r3 sz bel; obtain ⟨e0, e1, e2, e3, r0, r1, r2, r3, sz, bel⟩ := id I12; clear hb12 I11))
  all_goals
    go_wp2
    go_ret
    exact ⟨rfl, bel⟩
end Go.Proofs.Ytkljmdekihlkeaa
