/-
  Layer 27: the law ValueBack. (Printed by gen_vallaws2.py.)
-/
import Derived.Test.YtilflcbmejhepaaDoorValLaws1
set_option linter.unusedVariables false
set_option linter.unusedSimpArgs false
namespace Go.Proofs.YtilflcbmejhepaaDoor
open Go.RowKit
open Val (V)

theorem text_len (v : V) (hn : v.n < 18446744073709551616) : (Val.text v).length ≤ 1000 := by
  unfold Val.text Val.refT
  have h1 := Val.s32_in v.n
  have h2 := Val.s64_in hn
  have h3 := itoa_len (k := Val.s32 v.n) (by omega) (by omega)
  have h4 := itoa_len (k := Val.s64 v.n) (by omega) (by omega)
  have h5 := Val.dec_len64 (u := v.n - 1) (by omega)
  repeat' split
  all_goals (simp [Val.bFunc, Val.bExtern]; try omega)
theorem parse_cases (l : List UInt8) : (∃ x : V, Val.parse l = (x, true) ∧ Val.text x = l ∧ Val.right x = true ∧ x.n < 18446744073709551616) ∨ Val.parse l = (⟨0, 0⟩, false) := by
  unfold Val.parse
  by_cases h : Val.text (Val.pv l) = l
  · exact .inl ⟨_, if_pos h, h, Val.parse_some h, Val.pv_lt l⟩
  · exact .inr (if_neg h)
theorem text_wrong {v : V} (h : Val.right v = false) : Val.text v = [] := by unfold Val.text; rw [if_neg (by rw [h]; decide)]

set_option maxHeartbeats 16000000 in
set_option maxRecDepth 100000 in
theorem back_ri (t : Int) (n : Nat) (hn : n < 18446744073709551616) (l : List UInt8) (hl : l.length ≤ 300) (w : World) (G : Glob w) (hr : Val.right ⟨t, n⟩ = true) (xt : Int) (xn : Nat) (hx : Val.parse l = (⟨xt, xn⟩, true)) (ht : Val.text ⟨xt, xn⟩ = l) (hxr : Val.right ⟨xt, xn⟩ = true) (hxn : xn < 18446744073709551616) : Calls Tryd.prog 5 #[.agg #[.int .i64 t, .int .u64 (n : Int)], .string ⟨l.toArray⟩] w fun e w' => e = .returned (.bool true) ∧ Below w.heap.size w w' := by
  have hsz : (ByteArray.mk l.toArray).size = l.length := by simp [ByteArray.size]
  have i1 : decide (300 < (l.length : Int)) = false := by simp; omega
  have i2 : decide (300 < l.length) = false := by simp; omega
  have HA := Lib.hid (fun W (g : Glob W) => alive_any W g)
  have hlen := text_len ⟨t, n⟩ hn
  have hp := Val.parse_text hr hn
  obtain ⟨y, hy⟩ : ∃ y, Val.text ⟨t, n⟩ = y := ⟨_, rfl⟩
  rw [hy] at hp hlen
  have H1 : Hid (∀ W, Tab W → Calls Tryd.prog 10 #[.agg #[.int .i64 t, .int .u64 (n : Int)]] W fun e w' => e = .returned (.string ⟨(y : List UInt8).toArray⟩) ∧ Below W.heap.size W w') := Lib.hid (fun W g => by have h := text_any ⟨t, n⟩ hn W g; rw [hy] at h; exact h)
  have H2 : Hid (∀ W, Glob W → Calls Tryd.prog 15 #[.string ⟨(y : List UInt8).toArray⟩] W fun e w' => e = .returned (.tuple #[.agg #[.int .i64 t, .int .u64 (n : Int)], .bool true]) ∧ Below W.heap.size W w') := Lib.hid (fun W g => by have h := parse_any y (by omega) W g; rw [hp] at h; exact h)
  have H3 : Hid (∀ W, Calls Tryd.prog 8 #[.agg #[.int .i64 t, .int .u64 (n : Int)]] W fun e w' => e = .returned (.bool true) ∧ Below W.heap.size W w') := Lib.hid (fun W => by have h := right_any ⟨t, n⟩ hn W; rw [hr] at h; exact h)
  have H4 : Hid (∀ W, Glob W → Calls Tryd.prog 15 #[.string ⟨l.toArray⟩] W fun e w' => e = .returned (.tuple #[.agg #[.int .i64 xt, .int .u64 (xn : Int)], .bool true]) ∧ Below W.heap.size W w') := Lib.hid (fun W g => by have h := parse_any l (by omega) W g; rw [hx] at h; exact h)
  have H5 : Hid (∀ W, Tab W → Calls Tryd.prog 10 #[.agg #[.int .i64 xt, .int .u64 (xn : Int)]] W fun e w' => e = .returned (.string ⟨l.toArray⟩) ∧ Below W.heap.size W w') := Lib.hid (fun W g => by have h := text_any ⟨xt, xn⟩ hxn W g; rw [ht] at h; exact h)
  have H6 : Hid (∀ W, Calls Tryd.prog 8 #[.agg #[.int .i64 xt, .int .u64 (xn : Int)]] W fun e w' => e = .returned (.bool true) ∧ Below W.heap.size W w') := Lib.hid (fun W => by have h := right_any ⟨xt, xn⟩ hxn W; rw [hxr] at h; exact h)
  have HI := Lib.hid (At1.new G t n)
  clear hr hx hy hp hlen G hn ht hxr hxn
  go_enter Tryd.func5, Tryd.ntmps5
  go_upto_region 4 with (go_at_call 10; refine (H1.out _ HI.out.gl.tab).mono ?_; rintro e w1 ⟨rfl, hb⟩; have HJ := Lib.hid (HI.out.step hb); clear hb)
  clear HI H1
  go_upto_region 5 with (go_at_call 15; refine (H2.out _ HJ.out.gl).mono ?_; rintro e w2 ⟨rfl, hb⟩; have HK := Lib.hid (HJ.out.step hb); clear hb)
  clear HJ H2
  refine at_code (F := fun W => At1 w W t n ∧ At1 w2 W t n) ⟨HK.out.step ((Below.refl _ _).alloc (Nat.le_refl _) _), At1.new HK.out.gl t n⟩ ?_
  rintro wy ⟨I1, J1⟩
  obtain ⟨c0, c1, gl, bel, lt⟩ := id I1
  obtain ⟨e0, e1, _, _, lt2⟩ := id J1
  clear HK
  go_upto_region 7 with (go_at_call 8; (with_reducible refine (H3.out _).mono ?_); rintro e w3 ⟨rfl, hb⟩; have I2 := I1.step hb; have J2 := J1.step hb; clear c0 c1 gl bel lt e0 e1 lt2 I1 J1; obtain ⟨c0, c1, gl, bel, lt⟩ := id I2; obtain ⟨e0, e1, _, _, lt2⟩ := id J2; clear hb)
  have HBel := Lib.hid bel
  clear c0 c1 e0 e1 lt lt2 I2 J2 H3 bel
  go_upto_region 8 with (go_at_call 15; refine (H4.out _ gl).mono ?_; rintro e w4 ⟨rfl, hb⟩; have HK := Lib.hid (HBel.out.trans (hb.mono HBel.out.size)); have GK := Lib.hid (gl.on hb (Nat.le_refl _)); clear hb)
  refine at_code (F := fun W => At1 w4 W xt xn) (At1.new GK.out xt xn) ?_
  intro wz I3
  obtain ⟨c0, c1, gl2, bel, lt⟩ := id I3
  go_wp2_with (first
    | (go_at_call 10; (with_reducible refine (H5.out _ gl2.tab).mono ?_); rintro e w5 ⟨rfl, hb⟩; have I4 := I3.step hb; clear c0 c1 gl2 bel lt; obtain ⟨c0, c1, gl2, bel, lt⟩ := id I4; clear hb I3)
    | (go_at_call 8; (with_reducible refine (H6.out _).mono ?_); rintro e w6 ⟨rfl, hb⟩; have I5 := I4.step hb; clear c0 c1 gl2 bel lt; obtain ⟨c0, c1, gl2, bel, lt⟩ := id I5; clear hb I4)
    | (go_at_call 14; refine (HA.out _ gl2).mono ?_; rintro e w7 ⟨rfl, hb⟩; have HZ := Lib.hid (bel.trans (hb.mono bel.size)); clear hb))
  go_ret
  exact ⟨rfl, HK.out.trans (HZ.out.mono HK.out.size)⟩
set_option maxHeartbeats 16000000 in
set_option maxRecDepth 100000 in
theorem back_rn (t : Int) (n : Nat) (hn : n < 18446744073709551616) (l : List UInt8) (hl : l.length ≤ 300) (w : World) (G : Glob w) (hr : Val.right ⟨t, n⟩ = true) (hx : Val.parse l = (⟨0, 0⟩, false)) : Calls Tryd.prog 5 #[.agg #[.int .i64 t, .int .u64 (n : Int)], .string ⟨l.toArray⟩] w fun e w' => e = .returned (.bool true) ∧ Below w.heap.size w w' := by
  have hsz : (ByteArray.mk l.toArray).size = l.length := by simp [ByteArray.size]
  have i1 : decide (300 < (l.length : Int)) = false := by simp; omega
  have i2 : decide (300 < l.length) = false := by simp; omega
  have HA := Lib.hid (fun W (g : Glob W) => alive_any W g)
  have hlen := text_len ⟨t, n⟩ hn
  have hp := Val.parse_text hr hn
  obtain ⟨y, hy⟩ : ∃ y, Val.text ⟨t, n⟩ = y := ⟨_, rfl⟩
  rw [hy] at hp hlen
  have H1 : Hid (∀ W, Tab W → Calls Tryd.prog 10 #[.agg #[.int .i64 t, .int .u64 (n : Int)]] W fun e w' => e = .returned (.string ⟨(y : List UInt8).toArray⟩) ∧ Below W.heap.size W w') := Lib.hid (fun W g => by have h := text_any ⟨t, n⟩ hn W g; rw [hy] at h; exact h)
  have H2 : Hid (∀ W, Glob W → Calls Tryd.prog 15 #[.string ⟨(y : List UInt8).toArray⟩] W fun e w' => e = .returned (.tuple #[.agg #[.int .i64 t, .int .u64 (n : Int)], .bool true]) ∧ Below W.heap.size W w') := Lib.hid (fun W g => by have h := parse_any y (by omega) W g; rw [hp] at h; exact h)
  have H3 : Hid (∀ W, Calls Tryd.prog 8 #[.agg #[.int .i64 t, .int .u64 (n : Int)]] W fun e w' => e = .returned (.bool true) ∧ Below W.heap.size W w') := Lib.hid (fun W => by have h := right_any ⟨t, n⟩ hn W; rw [hr] at h; exact h)
  have H4 : Hid (∀ W, Glob W → Calls Tryd.prog 15 #[.string ⟨l.toArray⟩] W fun e w' => e = .returned (.tuple #[.agg #[.int .i64 0, .int .u64 (0 : Int)], .bool false]) ∧ Below W.heap.size W w') := Lib.hid (fun W g => by have h := parse_any l (by omega) W g; rw [hx] at h; exact h)
  have HI := Lib.hid (At1.new G t n)
  clear hr hx hy hp hlen G hn
  go_enter Tryd.func5, Tryd.ntmps5
  go_upto_region 4 with (go_at_call 10; refine (H1.out _ HI.out.gl.tab).mono ?_; rintro e w1 ⟨rfl, hb⟩; have HJ := Lib.hid (HI.out.step hb); clear hb)
  clear HI H1
  go_upto_region 5 with (go_at_call 15; refine (H2.out _ HJ.out.gl).mono ?_; rintro e w2 ⟨rfl, hb⟩; have HK := Lib.hid (HJ.out.step hb); clear hb)
  clear HJ H2
  refine at_code (F := fun W => At1 w W t n ∧ At1 w2 W t n) ⟨HK.out.step ((Below.refl _ _).alloc (Nat.le_refl _) _), At1.new HK.out.gl t n⟩ ?_
  rintro wy ⟨I1, J1⟩
  obtain ⟨c0, c1, gl, bel, lt⟩ := id I1
  obtain ⟨e0, e1, _, _, lt2⟩ := id J1
  clear HK
  go_upto_region 7 with (go_at_call 8; (with_reducible refine (H3.out _).mono ?_); rintro e w3 ⟨rfl, hb⟩; have I2 := I1.step hb; have J2 := J1.step hb; clear c0 c1 gl bel lt e0 e1 lt2 I1 J1; obtain ⟨c0, c1, gl, bel, lt⟩ := id I2; obtain ⟨e0, e1, _, _, lt2⟩ := id J2; clear hb)
  have HBel := Lib.hid bel
  clear c0 c1 e0 e1 lt lt2 I2 J2 H3 bel
  go_upto_region 8 with (go_at_call 15; refine (H4.out _ gl).mono ?_; rintro e w4 ⟨rfl, hb⟩; have HK := Lib.hid (HBel.out.trans (hb.mono HBel.out.size)); have GK := Lib.hid (gl.on hb (Nat.le_refl _)); clear hb)
  refine at_code (F := fun W => At1 w4 W 0 0) (At1.new GK.out 0 0) ?_
  intro wz I3
  obtain ⟨c0, c1, gl2, bel, lt⟩ := id I3
  go_wp2_with (first
    | (go_at_call 14; refine (HA.out _ gl2).mono ?_; rintro e w7 ⟨rfl, hb⟩; have HZ := Lib.hid (bel.trans (hb.mono bel.size)); clear hb))
  go_ret
  exact ⟨rfl, HK.out.trans (HZ.out.mono HK.out.size)⟩
set_option maxHeartbeats 16000000 in
set_option maxRecDepth 100000 in
theorem back_wi (t : Int) (n : Nat) (hn : n < 18446744073709551616) (l : List UInt8) (hl : l.length ≤ 300) (w : World) (G : Glob w) (hr : Val.right ⟨t, n⟩ = false) (xt : Int) (xn : Nat) (hx : Val.parse l = (⟨xt, xn⟩, true)) (ht : Val.text ⟨xt, xn⟩ = l) (hxr : Val.right ⟨xt, xn⟩ = true) (hxn : xn < 18446744073709551616) : Calls Tryd.prog 5 #[.agg #[.int .i64 t, .int .u64 (n : Int)], .string ⟨l.toArray⟩] w fun e w' => e = .returned (.bool true) ∧ Below w.heap.size w w' := by
  have hsz : (ByteArray.mk l.toArray).size = l.length := by simp [ByteArray.size]
  have i1 : decide (300 < (l.length : Int)) = false := by simp; omega
  have i2 : decide (300 < l.length) = false := by simp; omega
  have HA := Lib.hid (fun W (g : Glob W) => alive_any W g)
  have hlen := text_len ⟨t, n⟩ hn
  have hy := text_wrong hr
  have hp := Val.parse_empty
  have H1 : Hid (∀ W, Tab W → Calls Tryd.prog 10 #[.agg #[.int .i64 t, .int .u64 (n : Int)]] W fun e w' => e = .returned (.string ⟨#[]⟩) ∧ Below W.heap.size W w') := Lib.hid (fun W g => by have h := text_any ⟨t, n⟩ hn W g; rw [hy] at h; exact h)
  have H2 : Hid (∀ W, Glob W → Calls Tryd.prog 15 #[.string ⟨#[]⟩] W fun e w' => e = .returned (.tuple #[.agg #[.int .i64 0, .int .u64 (0 : Int)], .bool false]) ∧ Below W.heap.size W w') := Lib.hid (fun W g => by have h := parse_any [] (by decide) W g; rw [hp] at h; exact h)
  have H3 : Hid (∀ W, Calls Tryd.prog 8 #[.agg #[.int .i64 t, .int .u64 (n : Int)]] W fun e w' => e = .returned (.bool false) ∧ Below W.heap.size W w') := Lib.hid (fun W => by have h := right_any ⟨t, n⟩ hn W; rw [hr] at h; exact h)
  have H4 : Hid (∀ W, Glob W → Calls Tryd.prog 15 #[.string ⟨l.toArray⟩] W fun e w' => e = .returned (.tuple #[.agg #[.int .i64 xt, .int .u64 (xn : Int)], .bool true]) ∧ Below W.heap.size W w') := Lib.hid (fun W g => by have h := parse_any l (by omega) W g; rw [hx] at h; exact h)
  have H5 : Hid (∀ W, Tab W → Calls Tryd.prog 10 #[.agg #[.int .i64 xt, .int .u64 (xn : Int)]] W fun e w' => e = .returned (.string ⟨l.toArray⟩) ∧ Below W.heap.size W w') := Lib.hid (fun W g => by have h := text_any ⟨xt, xn⟩ hxn W g; rw [ht] at h; exact h)
  have H6 : Hid (∀ W, Calls Tryd.prog 8 #[.agg #[.int .i64 xt, .int .u64 (xn : Int)]] W fun e w' => e = .returned (.bool true) ∧ Below W.heap.size W w') := Lib.hid (fun W => by have h := right_any ⟨xt, xn⟩ hxn W; rw [hxr] at h; exact h)
  have HI := Lib.hid (At1.new G t n)
  clear hr hx hy hp hlen G hn ht hxr hxn
  go_enter Tryd.func5, Tryd.ntmps5
  go_upto_region 4 with (go_at_call 10; refine (H1.out _ HI.out.gl.tab).mono ?_; rintro e w1 ⟨rfl, hb⟩; have HJ := Lib.hid (HI.out.step hb); clear hb)
  clear HI H1
  go_upto_region 5 with (go_at_call 15; refine (H2.out _ HJ.out.gl).mono ?_; rintro e w2 ⟨rfl, hb⟩; have HK := Lib.hid (HJ.out.step hb); clear hb)
  clear HJ H2
  refine at_code (F := fun W => At1 w W t n ∧ At1 w2 W 0 0) ⟨HK.out.step ((Below.refl _ _).alloc (Nat.le_refl _) _), At1.new HK.out.gl 0 0⟩ ?_
  rintro wy ⟨I1, J1⟩
  obtain ⟨c0, c1, gl, bel, lt⟩ := id I1
  obtain ⟨e0, e1, _, _, lt2⟩ := id J1
  clear HK
  go_upto_region 7 with (go_at_call 8; (with_reducible refine (H3.out _).mono ?_); rintro e w3 ⟨rfl, hb⟩; have I2 := I1.step hb; have J2 := J1.step hb; clear c0 c1 gl bel lt e0 e1 lt2 I1 J1; obtain ⟨c0, c1, gl, bel, lt⟩ := id I2; obtain ⟨e0, e1, _, _, lt2⟩ := id J2; clear hb)
  have HBel := Lib.hid bel
  clear c0 c1 e0 e1 lt lt2 I2 J2 H3 bel
  go_upto_region 8 with (go_at_call 15; refine (H4.out _ gl).mono ?_; rintro e w4 ⟨rfl, hb⟩; have HK := Lib.hid (HBel.out.trans (hb.mono HBel.out.size)); have GK := Lib.hid (gl.on hb (Nat.le_refl _)); clear hb)
  refine at_code (F := fun W => At1 w4 W xt xn) (At1.new GK.out xt xn) ?_
  intro wz I3
  obtain ⟨c0, c1, gl2, bel, lt⟩ := id I3
  go_wp2_with (first
    | (go_at_call 10; (with_reducible refine (H5.out _ gl2.tab).mono ?_); rintro e w5 ⟨rfl, hb⟩; have I4 := I3.step hb; clear c0 c1 gl2 bel lt; obtain ⟨c0, c1, gl2, bel, lt⟩ := id I4; clear hb I3)
    | (go_at_call 8; (with_reducible refine (H6.out _).mono ?_); rintro e w6 ⟨rfl, hb⟩; have I5 := I4.step hb; clear c0 c1 gl2 bel lt; obtain ⟨c0, c1, gl2, bel, lt⟩ := id I5; clear hb I4)
    | (go_at_call 14; refine (HA.out _ gl2).mono ?_; rintro e w7 ⟨rfl, hb⟩; have HZ := Lib.hid (bel.trans (hb.mono bel.size)); clear hb))
  go_ret
  exact ⟨rfl, HK.out.trans (HZ.out.mono HK.out.size)⟩
set_option maxHeartbeats 16000000 in
set_option maxRecDepth 100000 in
theorem back_wn (t : Int) (n : Nat) (hn : n < 18446744073709551616) (l : List UInt8) (hl : l.length ≤ 300) (w : World) (G : Glob w) (hr : Val.right ⟨t, n⟩ = false) (hx : Val.parse l = (⟨0, 0⟩, false)) : Calls Tryd.prog 5 #[.agg #[.int .i64 t, .int .u64 (n : Int)], .string ⟨l.toArray⟩] w fun e w' => e = .returned (.bool true) ∧ Below w.heap.size w w' := by
  have hsz : (ByteArray.mk l.toArray).size = l.length := by simp [ByteArray.size]
  have i1 : decide (300 < (l.length : Int)) = false := by simp; omega
  have i2 : decide (300 < l.length) = false := by simp; omega
  have HA := Lib.hid (fun W (g : Glob W) => alive_any W g)
  have hlen := text_len ⟨t, n⟩ hn
  have hy := text_wrong hr
  have hp := Val.parse_empty
  have H1 : Hid (∀ W, Tab W → Calls Tryd.prog 10 #[.agg #[.int .i64 t, .int .u64 (n : Int)]] W fun e w' => e = .returned (.string ⟨#[]⟩) ∧ Below W.heap.size W w') := Lib.hid (fun W g => by have h := text_any ⟨t, n⟩ hn W g; rw [hy] at h; exact h)
  have H2 : Hid (∀ W, Glob W → Calls Tryd.prog 15 #[.string ⟨#[]⟩] W fun e w' => e = .returned (.tuple #[.agg #[.int .i64 0, .int .u64 (0 : Int)], .bool false]) ∧ Below W.heap.size W w') := Lib.hid (fun W g => by have h := parse_any [] (by decide) W g; rw [hp] at h; exact h)
  have H3 : Hid (∀ W, Calls Tryd.prog 8 #[.agg #[.int .i64 t, .int .u64 (n : Int)]] W fun e w' => e = .returned (.bool false) ∧ Below W.heap.size W w') := Lib.hid (fun W => by have h := right_any ⟨t, n⟩ hn W; rw [hr] at h; exact h)
  have H4 : Hid (∀ W, Glob W → Calls Tryd.prog 15 #[.string ⟨l.toArray⟩] W fun e w' => e = .returned (.tuple #[.agg #[.int .i64 0, .int .u64 (0 : Int)], .bool false]) ∧ Below W.heap.size W w') := Lib.hid (fun W g => by have h := parse_any l (by omega) W g; rw [hx] at h; exact h)
  have HI := Lib.hid (At1.new G t n)
  clear hr hx hy hp hlen G hn
  go_enter Tryd.func5, Tryd.ntmps5
  go_upto_region 4 with (go_at_call 10; refine (H1.out _ HI.out.gl.tab).mono ?_; rintro e w1 ⟨rfl, hb⟩; have HJ := Lib.hid (HI.out.step hb); clear hb)
  clear HI H1
  go_upto_region 5 with (go_at_call 15; refine (H2.out _ HJ.out.gl).mono ?_; rintro e w2 ⟨rfl, hb⟩; have HK := Lib.hid (HJ.out.step hb); clear hb)
  clear HJ H2
  refine at_code (F := fun W => At1 w W t n ∧ At1 w2 W 0 0) ⟨HK.out.step ((Below.refl _ _).alloc (Nat.le_refl _) _), At1.new HK.out.gl 0 0⟩ ?_
  rintro wy ⟨I1, J1⟩
  obtain ⟨c0, c1, gl, bel, lt⟩ := id I1
  obtain ⟨e0, e1, _, _, lt2⟩ := id J1
  clear HK
  go_upto_region 7 with (go_at_call 8; (with_reducible refine (H3.out _).mono ?_); rintro e w3 ⟨rfl, hb⟩; have I2 := I1.step hb; have J2 := J1.step hb; clear c0 c1 gl bel lt e0 e1 lt2 I1 J1; obtain ⟨c0, c1, gl, bel, lt⟩ := id I2; obtain ⟨e0, e1, _, _, lt2⟩ := id J2; clear hb)
  have HBel := Lib.hid bel
  clear c0 c1 e0 e1 lt lt2 I2 J2 H3 bel
  go_upto_region 8 with (go_at_call 15; refine (H4.out _ gl).mono ?_; rintro e w4 ⟨rfl, hb⟩; have HK := Lib.hid (HBel.out.trans (hb.mono HBel.out.size)); have GK := Lib.hid (gl.on hb (Nat.le_refl _)); clear hb)
  refine at_code (F := fun W => At1 w4 W 0 0) (At1.new GK.out 0 0) ?_
  intro wz I3
  obtain ⟨c0, c1, gl2, bel, lt⟩ := id I3
  go_wp2_with (first
    | (go_at_call 14; refine (HA.out _ gl2).mono ?_; rintro e w7 ⟨rfl, hb⟩; have HZ := Lib.hid (bel.trans (hb.mono bel.size)); clear hb))
  go_ret
  exact ⟨rfl, HK.out.trans (HZ.out.mono HK.out.size)⟩

set_option maxHeartbeats 1000000 in
theorem back_walk (v : V) (hn : v.n < 18446744073709551616) (l : List UInt8) (hm : l.length ≤ 9223372036854775807) (w : World) (G : Glob w) : Calls Tryd.prog 5 #[vv v, .string ⟨l.toArray⟩] w fun e w' => e = .returned (.bool true) ∧ Below w.heap.size w w' := by
  obtain ⟨t, n⟩ := v
  by_cases hl : l.length ≤ 300
  · rcases hr : Val.right ⟨t, n⟩ with _ | _ <;> rcases parse_cases l with ⟨⟨xt, xn⟩, h1, h2, h3, h4⟩ | h
    · exact back_wi t n hn l hl w G hr xt xn h1 h2 h3 h4
    · exact back_wn t n hn l hl w G hr h
    · exact back_ri t n hn l hl w G hr xt xn h1 h2 h3 h4
    · exact back_rn t n hn l hl w G hr h
  · have hsz : (ByteArray.mk l.toArray).size = l.length := by simp [ByteArray.size]
    have i1 : decide (300 < (l.length : Int)) = true := by simp; omega
    have i2 : decide (300 < l.length) = true := by simp; omega
    have HI := Lib.hid (At1.new G t n)
    unfold vv
    dsimp only
    go_enter Tryd.func5, Tryd.ntmps5
    go_wp2_with (go_at_call 14; refine (alive_any _ HI.out.gl).mono ?_; rintro e w2 ⟨rfl, hb2⟩)
    go_ret
    exact ⟨rfl, HI.out.bel.trans (hb2.mono HI.out.bel.size)⟩
end Go.Proofs.YtilflcbmejhepaaDoor
