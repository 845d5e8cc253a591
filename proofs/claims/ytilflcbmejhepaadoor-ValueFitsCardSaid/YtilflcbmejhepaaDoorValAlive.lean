/-
  Layer 27: the law's examples (alive).
-/
import Derived.Test.YtilflcbmejhepaaDoorValRParse
set_option linter.unusedVariables false
set_option linter.unusedSimpArgs false
namespace Go.Proofs.YtilflcbmejhepaaDoor
open Go.RowKit
open Val (V)

namespace Val
theorem itoa_m1 : Lib.itoa (-1) = [45, 49] := by
  unfold Lib.itoa
  rw [if_pos (by decide), show (-1 : Int).natAbs = 1 from rfl, dec_small (by decide)]
  rfl
theorem itoa_m7 : Lib.itoa (-7) = [45, 55] := by
  unfold Lib.itoa
  rw [if_pos (by decide), show (-7 : Int).natAbs = 7 from rfl, dec_small (by decide)]
  rfl
theorem text_e1 : text ⟨1, 4294967295⟩ = [105, 51, 50, 32, 45, 49] := by
  unfold text
  rw [if_pos (by decide)]
  dsimp only
  rw [if_pos rfl, show s32 4294967295 = -1 by decide, itoa_m1]
  rfl
theorem text_e2 : text ⟨3, 4⟩ = [114, 101, 102, 46, 102, 117, 110, 99, 32, 51] := by
  unfold text refT
  rw [if_pos (by decide)]
  dsimp only
  rw [if_neg (by decide), if_neg (by decide), if_pos rfl, if_neg (by decide), dec_small (by decide)]
  rfl
theorem text_e3 : text ⟨2, 18446744073709551609⟩ = [105, 54, 52, 32, 45, 55] := by
  unfold text
  rw [if_pos (by decide)]
  dsimp only
  rw [if_neg (by decide), if_pos rfl, show s64 18446744073709551609 = -7 by decide, itoa_m7]
  rfl
theorem parse_e3 : parse [105, 54, 52, 32, 45, 55] = (⟨2, 18446744073709551609⟩, true) := by
  rw [← text_e3]
  exact parse_text (by decide) (by decide)
end Val

/-- The cells of a value in the call's first block, and what the row's variables give. -/
structure At1 (w W : World) (t : Int) (n : Nat) : Prop where
  c0 : W.cell? ⟨w.heap.size, 0, none⟩ = some (.int .i64 t)
  c1 : W.cell? ⟨w.heap.size, 1, none⟩ = some (.int .u64 (n : Int))
  gl : Glob W
  bel : Below w.heap.size w W
  lt : w.heap.size < W.heap.size
theorem At1.step {w W W' : World} {t : Int} {n : Nat} (h : At1 w W t n) (hb : Below W.heap.size W W') : At1 w W' t n :=
  ⟨(hb.cell (p := ⟨w.heap.size, 0, none⟩) h.lt).trans h.c0, (hb.cell (p := ⟨w.heap.size, 1, none⟩) h.lt).trans h.c1, h.gl.on hb (Nat.le_refl _), h.bel.trans (hb.mono h.bel.size), Nat.lt_of_lt_of_le h.lt hb.size⟩
theorem At1.drew {w W : World} {t : Int} {n : Nat} (h : At1 w W t n) : At1 w W.drew t n := h.step (below_drewN W 1)
theorem At1.new {w : World} (G : Glob w) (t : Int) (n : Nat) : At1 w (w.alloc (.cells #[.int .i64 t, .int .u64 (n : Int)] 25)) t n :=
  ⟨(Var.new w _ _).cells 0, (Var.new w _ _).cells 1, G.on ((Below.refl w.heap.size w).alloc (Nat.le_refl _) _) (Nat.le_refl _), (Below.refl w.heap.size w).alloc (Nat.le_refl _) _, by simp⟩

set_option maxHeartbeats 4000000 in
set_option maxRecDepth 100000 in
theorem alive_any (w : World) (G : Glob w) : Calls Tryd.prog 14 #[] w fun e w' => e = .returned (.bool true) ∧ Below w.heap.size w w' := by
  have hP := parse_any [105, 54, 52, 32, 45, 55] (by decide) w G
  rw [Val.parse_e3] at hP
  have H1 : Hid (∀ W, Tab W → Calls Tryd.prog 10 #[.agg #[.int .i64 1, .int .u64 4294967295]] W fun e w' => e = .returned (.string ⟨#[105, 51, 50, 32, 45, 49]⟩) ∧ Below W.heap.size W w') :=
    Lib.hid (fun W t => by have h := text_any ⟨1, 4294967295⟩ (by decide) W t; rw [Val.text_e1] at h; exact h)
  have H2 : Hid (∀ W, Tab W → Calls Tryd.prog 10 #[.agg #[.int .i64 3, .int .u64 4]] W fun e w' => e = .returned (.string ⟨#[114, 101, 102, 46, 102, 117, 110, 99, 32, 51]⟩) ∧ Below W.heap.size W w') :=
    Lib.hid (fun W t => by have h := text_any ⟨3, 4⟩ (by decide) W t; rw [Val.text_e2] at h; exact h)
  have HZ : Hid (∀ W, Calls Tryd.prog 12 #[.int .i64 2] W fun e w' => e = .returned (.agg #[.int .i64 2, .int .u64 0]) ∧ Below W.heap.size W w') := Lib.hid (fun W => zero_any 2 W)
  have HP : Hid (Calls Tryd.prog 15 #[.string ⟨#[105, 54, 52, 32, 45, 55]⟩] w fun e w' => e = .returned (.tuple #[.agg #[.int .i64 2, .int .u64 18446744073709551609], .bool true]) ∧ Below w.heap.size w w') := Lib.hid hP
  have GG := Lib.hid G
  clear hP G
  go_enter Tryd.func14, Tryd.ntmps14
  go_upto_region 2 with (go_at_call 15; refine HP.out.mono ?_; rintro e w1 ⟨rfl, hb⟩; have HB := Lib.hid hb; clear hb)
  have HA := At1.new (GG.out.on HB.out (Nat.le_refl _)) 2 18446744073709551609
  have HBB := Lib.hid HB.out
  refine at_code (F := fun W => At1 w1 W 2 18446744073709551609) HA ?_
  intro wx I0
  obtain ⟨c0, c1, gl, bel, lt⟩ := id I0
  go_wp2_with (first
    | (go_at_call 10; (with_reducible refine (H1.out _ gl.tab).mono ?_); rintro e w2 ⟨rfl, hb⟩; have I1 := I0.step hb; clear c0 c1 gl bel lt; obtain ⟨c0, c1, gl, bel, lt⟩ := id I1; clear hb I0 H1)
    | (go_at_call 10; (with_reducible refine (H2.out _ gl.tab).mono ?_); rintro e w3 ⟨rfl, hb⟩; have I2 := I1.step hb; clear c0 c1 gl bel lt; obtain ⟨c0, c1, gl, bel, lt⟩ := id I2; clear hb I1 H2)
    | (go_at_call 12; refine (HZ.out _).mono ?_; rintro e w4 ⟨rfl, hb⟩; have I3 := I2.step hb; clear c0 c1 gl bel lt; obtain ⟨c0, c1, gl, bel, lt⟩ := id I3; clear hb I2))
  go_ret
  exact ⟨rfl, HBB.out.trans (bel.mono HBB.out.size)⟩
end Go.Proofs.YtilflcbmejhepaaDoor
