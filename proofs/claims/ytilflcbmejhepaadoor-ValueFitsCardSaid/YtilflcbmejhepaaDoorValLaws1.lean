/-
  Layer 27: the laws ValueTexts and ValueParses.
-/
import Derived.Test.YtilflcbmejhepaaDoorValAlive
import Derived.Deep.RegionHeld3
set_option linter.unusedVariables false
set_option linter.unusedSimpArgs false
namespace Go.Proofs.YtilflcbmejhepaaDoor
open Go.RowKit
open Val (V)

set_option maxHeartbeats 8000000 in
set_option maxRecDepth 100000 in
theorem texts_walk (v : V) (hn : v.n < 18446744073709551616) (t : Int) (w : World) (G : Glob w) : Calls Tryd.prog 3 #[vv v, .int .i64 t] w fun e w' => e = .returned (.bool true) ∧ Below w.heap.size w w' := by
  have I0 := At1.new G v.t v.n
  have h1 := fun W => right_any v hn W
  have h2 := fun W => rright_any v hn W
  have h3 := fun W (t : Tab W) => text_any v hn W t
  have h4 := fun W => rtext_any v hn W
  have h5 := fun W => zero_any t W
  have h6 := fun W => rzero_any t W
  obtain ⟨x, hx⟩ : ∃ x, Val.right v = x := ⟨_, rfl⟩
  obtain ⟨y, hy⟩ : ∃ y, Val.text v = y := ⟨_, rfl⟩
  obtain ⟨z, hz⟩ : ∃ z : Int, (if valB t = true then t else 0) = z := ⟨_, rfl⟩
  simp only [hx] at h1 h2
  simp only [hy] at h3 h4
  simp only [hz] at h5 h6
  obtain ⟨t0, n⟩ := v
  unfold vv at *
  dsimp only at *
  have H1 := Lib.hid h1
  have H2 := Lib.hid h2
  have H3 := Lib.hid h3
  have H4 := Lib.hid h4
  have H5 := Lib.hid h5
  have H6 := Lib.hid h6
  clear h1 h2 h3 h4 h5 h6 hx hy hz G hn
  go_enter Tryd.func3, Tryd.ntmps3
  go_wp2_with fail
  generalize w.alloc (.cells #[.int .i64 t0, .int .u64 (n : Int)] 25) = W0 at I0 ⊢
  obtain ⟨c0, c1, gl, bel, lt⟩ := id I0
  go_region_held3 (fun w' => w'.cell? ⟨w.heap.size, 0, none⟩ = some (.int .i64 t0) ∧ w'.cell? ⟨w.heap.size, 1, none⟩ = some (.int .u64 (n : Int)))
    (go_keep)
    (first
      | (go_at_call 8; (with_reducible refine (H1.out _).mono ?_); rintro e w1 ⟨rfl, hb⟩; have I1 := I0.drew.step hb; clear c0 c1 gl bel lt; obtain ⟨c0, c1, gl, bel, lt⟩ := id I1; clear hb I0)
      | (go_at_call 9; (with_reducible refine (H2.out _).mono ?_); rintro e w2 ⟨rfl, hb⟩; have I2 := I1.step hb; clear c0 c1 gl bel lt; obtain ⟨c0, c1, gl, bel, lt⟩ := id I2; clear hb I1)
      | (go_at_call 10; (with_reducible refine (H3.out _ gl.tab).mono ?_); rintro e w3 ⟨rfl, hb⟩; have I3 := I2.step hb; clear c0 c1 gl bel lt; obtain ⟨c0, c1, gl, bel, lt⟩ := id I3; clear hb I2)
      | (go_at_call 11; (with_reducible refine (H4.out _).mono ?_); rintro e w4 ⟨rfl, hb⟩; have I4 := I3.step hb; clear c0 c1 gl bel lt; obtain ⟨c0, c1, gl, bel, lt⟩ := id I4; clear hb I3)
      | (go_at_call 12; (with_reducible refine (H5.out _).mono ?_); rintro e w5 ⟨rfl, hb⟩; have I5 := I4.step hb; clear c0 c1 gl bel lt; obtain ⟨c0, c1, gl, bel, lt⟩ := id I5; clear hb I4)
      | (go_at_call 13; (with_reducible refine (H6.out _).mono ?_); rintro e w6 ⟨rfl, hb⟩; have I6 := I5.step hb; clear c0 c1 gl bel lt; obtain ⟨c0, c1, gl, bel, lt⟩ := id I6; clear hb I5)
      | (go_at_call 14; refine (alive_any _ gl).mono ?_; rintro e w7 ⟨rfl, hb⟩; have I7 := I6.step hb; clear c0 c1 gl bel lt; obtain ⟨c0, c1, gl, bel, lt⟩ := id I7; clear hb I6))
  all_goals
    go_wp2
    go_ret
    exact ⟨rfl, bel⟩

set_option maxHeartbeats 8000000 in
set_option maxRecDepth 100000 in
theorem parses_walk (l : List UInt8) (hm : l.length ≤ 9223372036854775807) (w : World) (G : Glob w) : Calls Tryd.prog 4 #[.string ⟨l.toArray⟩] w fun e w' => e = .returned (.bool true) ∧ Below w.heap.size w w' := by
  have hsz : (ByteArray.mk l.toArray).size = l.length := by simp [ByteArray.size]
  have HA := Lib.hid (fun W (g : Glob W) => alive_any W g)
  by_cases hl : l.length ≤ 300
  · have i1 : decide (300 < (l.length : Int)) = false := by simp; omega
    have i2 : decide (300 < l.length) = false := by simp; omega
    have h1 := parse_any l (by omega) w G
    have h2 := fun W => rparse_any l (by omega) W
    obtain ⟨⟨⟨t, n⟩, b⟩, hx⟩ : ∃ x, Val.parse l = x := ⟨_, rfl⟩
    rw [hx] at h1
    simp only [hx] at h2
    unfold vv at h1 h2
    dsimp only at h1 h2
    have H1 := Lib.hid h1
    have H2 := Lib.hid h2
    have GG := Lib.hid G
    clear h1 h2 hx G
    go_enter Tryd.func4, Tryd.ntmps4
    go_upto_region 4 with (go_at_call 15; refine H1.out.mono ?_; rintro e w1 ⟨rfl, hb⟩; have HB := Lib.hid hb; clear hb)
    refine at_code (F := fun W => At1 w1 W t n) (At1.new (GG.out.on HB.out (Nat.le_refl _)) t n) ?_
    intro wx I0
    have HI := Lib.hid I0
    go_upto_region 5 with (go_at_call 16; refine (H2.out _).mono ?_; rintro e w2 ⟨rfl, hb⟩; have HJ := Lib.hid (HI.out.step hb); clear hb)
    refine at_code (F := fun W => At1 w1 W t n ∧ At1 w2 W t n) ⟨HJ.out.step ((Below.refl _ _).alloc (Nat.le_refl _) _), At1.new HJ.out.gl t n⟩ ?_
    rintro wy ⟨I1, J1⟩
    obtain ⟨c0, c1, gl, bel, lt⟩ := id I1
    obtain ⟨e0, e1, _, _, _⟩ := id J1
    go_wp2_with (go_at_call 14; refine (HA.out _ gl).mono ?_; rintro e w3 ⟨rfl, hb⟩; have HB3 := Lib.hid (bel.trans (hb.mono bel.size)); clear hb)
    go_ret
    exact ⟨rfl, HB.out.trans (HB3.out.mono HB.out.size)⟩
  · have i1 : decide (300 < (l.length : Int)) = true := by simp; omega
    have i2 : decide (300 < l.length) = true := by simp; omega
    go_enter Tryd.func4, Tryd.ntmps4
    go_wp2_with (go_at_call 14; refine (HA.out _ G).mono ?_; rintro e w2 ⟨rfl, hb2⟩)
    go_ret
    exact ⟨rfl, hb2⟩
end Go.Proofs.YtilflcbmejhepaaDoor
