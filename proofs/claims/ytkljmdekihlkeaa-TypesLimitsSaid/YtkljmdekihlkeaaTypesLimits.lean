/-
  The walk of the law TypesLimits.
-/
import Derived.Test.YtkljmdekihlkeaaTypesLim
import Derived.Deep.RegionHeld3
set_option linter.unusedVariables false
namespace Go.Proofs.Ytkljmdekihlkeaa
open Go.RowKit

/-- The world W behind w holds the two boxes' cells, and below w's heap it is as w was. -/
structure Im (w W : World) (el mn mx : Int) (has : Bool) (gv : Int) (gm : Bool) (wmn wmx : Int) (wh : Bool) (most now : Int) : Prop where
  c0 : W.cell? ⟨w.heap.size, 0, none⟩ = some (.int .i64 el)
  c1 : W.cell? ⟨w.heap.size, 1, none⟩ = some (.int .i64 mn)
  c2 : W.cell? ⟨w.heap.size, 2, none⟩ = some (.int .i64 mx)
  c3 : W.cell? ⟨w.heap.size, 3, none⟩ = some (.bool has)
  c4 : W.cell? ⟨w.heap.size, 4, none⟩ = some (.int .i64 gv)
  c5 : W.cell? ⟨w.heap.size, 5, none⟩ = some (.bool gm)
  c6 : W.cell? ⟨w.heap.size, 6, none⟩ = some (.int .i64 wmn)
  c7 : W.cell? ⟨w.heap.size, 7, none⟩ = some (.int .i64 wmx)
  c8 : W.cell? ⟨w.heap.size, 8, none⟩ = some (.bool wh)
  c9 : W.cell? ⟨w.heap.size, 9, none⟩ = some (.int .i64 most)
  c10 : W.cell? ⟨w.heap.size, 10, none⟩ = some (.int .i64 now)
  d0 : W.cell? ⟨w.heap.size + 1, 0, none⟩ = some (.int .i64 mn)
  d1 : W.cell? ⟨w.heap.size + 1, 1, none⟩ = some (.int .i64 mx)
  d2 : W.cell? ⟨w.heap.size + 1, 2, none⟩ = some (.bool has)
  sz : w.heap.size + 2 ≤ W.heap.size
  bel : Below w.heap.size w W
theorem Im.step {w W w1 : World} {el mn mx : Int} {has : Bool} {gv : Int} {gm : Bool} {wmn wmx : Int} {wh : Bool} {most now : Int} (h : Im w W el mn mx has gv gm wmn wmx wh most now) (hb : Below W.heap.size W w1) : Im w w1 el mn mx has gv gm wmn wmx wh most now :=
  have s := h.sz
  ⟨(hb.cell (p := ⟨w.heap.size, 0, none⟩) (by show w.heap.size < _; omega)).trans h.c0, (hb.cell (p := ⟨w.heap.size, 1, none⟩) (by show w.heap.size < _; omega)).trans h.c1, (hb.cell (p := ⟨w.heap.size, 2, none⟩) (by show w.heap.size < _; omega)).trans h.c2, (hb.cell (p := ⟨w.heap.size, 3, none⟩) (by show w.heap.size < _; omega)).trans h.c3, (hb.cell (p := ⟨w.heap.size, 4, none⟩) (by show w.heap.size < _; omega)).trans h.c4, (hb.cell (p := ⟨w.heap.size, 5, none⟩) (by show w.heap.size < _; omega)).trans h.c5, (hb.cell (p := ⟨w.heap.size, 6, none⟩) (by show w.heap.size < _; omega)).trans h.c6, (hb.cell (p := ⟨w.heap.size, 7, none⟩) (by show w.heap.size < _; omega)).trans h.c7, (hb.cell (p := ⟨w.heap.size, 8, none⟩) (by show w.heap.size < _; omega)).trans h.c8, (hb.cell (p := ⟨w.heap.size, 9, none⟩) (by show w.heap.size < _; omega)).trans h.c9, (hb.cell (p := ⟨w.heap.size, 10, none⟩) (by show w.heap.size < _; omega)).trans h.c10, (hb.cell (p := ⟨w.heap.size + 1, 0, none⟩) (by show w.heap.size + 1 < _; omega)).trans h.d0, (hb.cell (p := ⟨w.heap.size + 1, 1, none⟩) (by show w.heap.size + 1 < _; omega)).trans h.d1, (hb.cell (p := ⟨w.heap.size + 1, 2, none⟩) (by show w.heap.size + 1 < _; omega)).trans h.d2, Nat.le_trans s hb.size, h.bel.trans (hb.mono h.bel.size)⟩
theorem Im.step0 {w W w1 : World} {el mn mx : Int} {has : Bool} {gv : Int} {gm : Bool} {wmn wmx : Int} {wh : Bool} {most now : Int} (h : Im w W el mn mx has gv gm wmn wmx wh most now) (hb : Below W.drew.heap.size W.drew w1) : Im w w1 el mn mx has gv gm wmn wmx wh most now :=
  have h' : Im w W.drew el mn mx has gv gm wmn wmx wh most now := ⟨h.c0, h.c1, h.c2, h.c3, h.c4, h.c5, h.c6, h.c7, h.c8, h.c9, h.c10, h.d0, h.d1, h.d2, h.sz, h.bel.drew⟩
  h'.step hb
theorem Im.two (w : World) (el mn mx : Int) (has : Bool) (gv : Int) (gm : Bool) (wmn wmx : Int) (wh : Bool) (most now : Int) : Im w ((w.alloc (.cells #[.int .i64 el, .int .i64 mn, .int .i64 mx, .bool has, .int .i64 gv, .bool gm, .int .i64 wmn, .int .i64 wmx, .bool wh, .int .i64 most, .int .i64 now] 34)).alloc (.cells #[.int .i64 mn, .int .i64 mx, .bool has] 23)) el mn mx has gv gm wmn wmx wh most now := by
  refine ⟨?_, ?_, ?_, ?_, ?_, ?_, ?_, ?_, ?_, ?_, ?_, ?_, ?_, ?_, by simp, ((Below.refl _ _).alloc (Nat.le_refl _) _).alloc (by simp) _⟩ <;> go_simp

set_option maxHeartbeats 20000000 in
set_option maxRecDepth 100000 in
theorem typesLimits_walk (el mn mx : Int) (has : Bool) (gv : Int) (gm : Bool) (wmn wmx : Int) (wh : Bool) (most now : Int) (w : World) :
    Calls Try.prog 4 #[.agg #[.int .i64 el, .int .i64 mn, .int .i64 mx, .bool has, .int .i64 gv, .bool gm, .int .i64 wmn, .int .i64 wmx, .bool wh, .int .i64 most, .int .i64 now]] w fun e w' => e = .returned (.bool true) ∧ Below w.heap.size w w' := by
  obtain ⟨xl, hxl⟩ : ∃ x, Ty.limits mn mx has most = x := ⟨_, rfl⟩
  obtain ⟨xt, hxt⟩ : ∃ x, Ty.table el mn mx has = x := ⟨_, rfl⟩
  obtain ⟨xg, hxg⟩ : ∃ x, Ty.val gv = x := ⟨_, rfl⟩
  obtain ⟨xf, hxf⟩ : ∃ x, Ty.fits now mx has wmn wmx wh = x := ⟨_, rfl⟩
  have C1 : Hid (∀ W : World, Calls Try.prog 10 #[.agg #[.int .i64 mn, .int .i64 mx, .bool has], .int .i64 most] W fun e w' => e = .returned (.bool xl) ∧ Below W.heap.size W w') := fun W => by have := limits_any mn mx has most W; rw [hxl] at this; exact this
  have C2 : Hid (∀ W : World, Calls Try.prog 11 #[.agg #[.int .i64 mn, .int .i64 mx, .bool has], .int .i64 most] W fun e w' => e = .returned (.bool xl) ∧ Below W.heap.size W w') := fun W => by have := refLimits_any mn mx has most W; rw [hxl] at this; exact this
  have C3 : Hid (∀ W : World, Calls Try.prog 12 #[.agg #[.int .i64 el, .int .i64 mn, .int .i64 mx, .bool has]] W fun e w' => e = .returned (.bool xt) ∧ Below W.heap.size W w') := fun W => by have := table_any el mn mx has W; rw [hxt] at this; exact this
  have C4 : Hid (∀ W : World, Calls Try.prog 13 #[.agg #[.int .i64 el, .int .i64 mn, .int .i64 mx, .bool has]] W fun e w' => e = .returned (.bool xt) ∧ Below W.heap.size W w') := fun W => by have := refTable_any el mn mx has W; rw [hxt] at this; exact this
  have C5 : Hid (∀ W : World, Calls Try.prog 14 #[.agg #[.int .i64 gv, .bool gm]] W fun e w' => e = .returned (.bool xg) ∧ Below W.heap.size W w') := fun W => by have := global_any gv gm W; rw [hxg] at this; exact this
  have C6 : Hid (∀ W : World, Calls Try.prog 15 #[.agg #[.int .i64 gv, .bool gm]] W fun e w' => e = .returned (.bool xg) ∧ Below W.heap.size W w') := fun W => by have := refGlobal_any gv gm W; rw [hxg] at this; exact this
  have C7 : Hid (∀ W : World, Calls Try.prog 8 #[.int .i64 now, .agg #[.int .i64 mn, .int .i64 mx, .bool has], .agg #[.int .i64 wmn, .int .i64 wmx, .bool wh]] W fun e w' => e = .returned (.bool xf) ∧ Below W.heap.size W w') := fun W => by have := fits_any now mn mx has wmn wmx wh W; rw [hxf] at this; exact this
  have C8 : Hid (∀ W : World, Calls Try.prog 16 #[.int .i64 now, .agg #[.int .i64 mn, .int .i64 mx, .bool has], .agg #[.int .i64 wmn, .int .i64 wmx, .bool wh]] W fun e w' => e = .returned (.bool xf) ∧ Below W.heap.size W w') := fun W => by have := refFits_any now mn mx has wmn wmx wh W; rw [hxf] at this; exact this
  clear hxl hxt hxg hxf
  have I0 := Im.two w el mn mx has gv gm wmn wmx wh most now
  go_enter Try.func4, Try.ntmps4
  go_wp2_with fail
  generalize (w.alloc (.cells #[.int .i64 el, .int .i64 mn, .int .i64 mx, .bool has, .int .i64 gv, .bool gm, .int .i64 wmn, .int .i64 wmx, .bool wh, .int .i64 most, .int .i64 now] 34)).alloc (.cells #[.int .i64 mn, .int .i64 mx, .bool has] 23) = W0 at I0 ⊢
  obtain ⟨c0, c1, c2, c3, c4, c5, c6, c7, c8, c9, c10, d0, d1, d2, sz, bel⟩ := id I0
  go_region_held3 (fun w' => w'.cell? ⟨w.heap.size, 0, none⟩ = some (.int .i64 el) ∧ w'.cell? ⟨w.heap.size, 1, none⟩ = some (.int .i64 mn) ∧ w'.cell? ⟨w.heap.size, 2, none⟩ = some (.int .i64 mx) ∧ w'.cell? ⟨w.heap.size, 3, none⟩ = some (.bool has) ∧ w'.cell? ⟨w.heap.size, 4, none⟩ = some (.int .i64 gv) ∧ w'.cell? ⟨w.heap.size, 5, none⟩ = some (.bool gm) ∧ w'.cell? ⟨w.heap.size, 6, none⟩ = some (.int .i64 wmn) ∧ w'.cell? ⟨w.heap.size, 7, none⟩ = some (.int .i64 wmx) ∧ w'.cell? ⟨w.heap.size, 8, none⟩ = some (.bool wh) ∧ w'.cell? ⟨w.heap.size, 9, none⟩ = some (.int .i64 most) ∧ w'.cell? ⟨w.heap.size, 10, none⟩ = some (.int .i64 now) ∧ w'.cell? ⟨w.heap.size + 1, 0, none⟩ = some (.int .i64 mn) ∧ w'.cell? ⟨w.heap.size + 1, 1, none⟩ = some (.int .i64 mx) ∧ w'.cell? ⟨w.heap.size + 1, 2, none⟩ = some (.bool has))
    (go_keep)
    (first
      | (go_at_call 10; (with_reducible refine (C1.out _).mono ?_); rintro e w1 ⟨rfl, hb1⟩; have I1 := I0.step0 hb1; clear c0 c1 c2 c3 c4 c5 c6 c7 c8 c9 c10 d0 d1 d2 sz bel; obtain ⟨c0, c1, c2, c3, c4, c5, c6, c7, c8, c9, c10, d0, d1, d2, sz, bel⟩ := id I1; clear hb1 C1 I0)
      | (go_at_call 11; (with_reducible refine (C2.out _).mono ?_); rintro e w2 ⟨rfl, hb2⟩; have I2 := I1.step hb2; clear c0 c1 c2 c3 c4 c5 c6 c7 c8 c9 c10 d0 d1 d2 sz bel; obtain ⟨c0, c1, c2, c3, c4, c5, c6, c7, c8, c9, c10, d0, d1, d2, sz, bel⟩ := id I2; clear hb2 C2 I1)
      | (go_at_call 12; (with_reducible refine (C3.out _).mono ?_); rintro e w3 ⟨rfl, hb3⟩; have I3 := I2.step hb3; clear c0 c1 c2 c3 c4 c5 c6 c7 c8 c9 c10 d0 d1 d2 sz bel; obtain ⟨c0, c1, c2, c3, c4, c5, c6, c7, c8, c9, c10, d0, d1, d2, sz, bel⟩ := id I3; clear hb3 C3 I2)
      | (go_at_call 13; (with_reducible refine (C4.out _).mono ?_); rintro e w4 ⟨rfl, hb4⟩; have I4 := I3.step hb4; clear c0 c1 c2 c3 c4 c5 c6 c7 c8 c9 c10 d0 d1 d2 sz bel; obtain ⟨c0, c1, c2, c3, c4, c5, c6, c7, c8, c9, c10, d0, d1, d2, sz, bel⟩ := id I4; clear hb4 C4 I3)
      | (go_at_call 14; (with_reducible refine (C5.out _).mono ?_); rintro e w5 ⟨rfl, hb5⟩; have I5 := I4.step hb5; clear c0 c1 c2 c3 c4 c5 c6 c7 c8 c9 c10 d0 d1 d2 sz bel; obtain ⟨c0, c1, c2, c3, c4, c5, c6, c7, c8, c9, c10, d0, d1, d2, sz, bel⟩ := id I5; clear hb5 C5 I4)
      | (go_at_call 15; (with_reducible refine (C6.out _).mono ?_); rintro e w6 ⟨rfl, hb6⟩; have I6 := I5.step hb6; clear c0 c1 c2 c3 c4 c5 c6 c7 c8 c9 c10 d0 d1 d2 sz bel; obtain ⟨c0, c1, c2, c3, c4, c5, c6, c7, c8, c9, c10, d0, d1, d2, sz, bel⟩ := id I6; clear hb6 C6 I5)
      | (go_at_call 8; (with_reducible refine (C7.out _).mono ?_); rintro e w7 ⟨rfl, hb7⟩; have I7 := I6.step hb7; clear c0 c1 c2 c3 c4 c5 c6 c7 c8 c9 c10 d0 d1 d2 sz bel; obtain ⟨c0, c1, c2, c3, c4, c5, c6, c7, c8, c9, c10, d0, d1, d2, sz, bel⟩ := id I7; clear hb7 C7 I6)
      | (go_at_call 16; (with_reducible refine (C8.out _).mono ?_); rintro e w8 ⟨rfl, hb8⟩; have I8 := I7.step hb8; clear c0 c1 c2 c3 c4 c5 c6 c7 c8 c9 c10 d0 d1 d2 sz bel; obtain ⟨c0, c1, c2, c3, c4, c5, c6, c7, c8, c9, c10, d0, d1, d2, sz, bel⟩ := id I8; clear hb8 C8 I7)
      | (go_at_call 9; refine (alive_any _).mono ?_; rintro e w9 ⟨rfl, hb9⟩; have I9 := I8.step hb9; clear c0 c1 c2 c3 c4 c5 c6 c7 c8 c9 c10 d0 d1 d2 sz bel; obtain ⟨c0, c1, c2, c3, c4, c5, c6, c7, c8, c9, c10, d0, d1, d2, sz, bel⟩ := id I9; clear hb9 I8))
  all_goals
    go_wp2
    go_ret
    exact ⟨rfl, bel⟩
end Go.Proofs.Ytkljmdekihlkeaa
