/-
  Layer 51, the frame: a parameter that is machine code, with the room of its lists. (Printed by gen_mf3.py.)
-/
import Derived.Test.YtadnfekogmjieaaGreatDoorELT4
set_option linter.unusedVariables false
set_option linter.unusedSimpArgs false
namespace Go.Proofs.YtadnfekogmjieaaGreatDoor
open Go.ChangeShapes Go.WideShapes Go.Deep Go.RowKit
open Mc (Pl Mi Mf)
section
variable {H : Type} {enc : TypeId × Value → H} {w : World} {base : Nat} {held : Bool} {spare : Nat → Bool}
set_option maxRecDepth 100000 in
theorem open_miC {m : Nat} {cs : List Value} {y : DataW H × List MemPlace} (h : DataW.trod enc Tryz.prog w base spare held m 61 cs = some y) (g o : Nat) (hc : ∀ j, j < 9 → w.cell? ⟨g, o + j, none⟩ = cs[j]?) :
    ∃ x : Mi, (MiAt (fun g => g < w.heap.size) w g o x ∧ CapAt w g o) ∧ QMi x := by
  obtain ⟨xs, n, rfl, rfl, hlen, hxl, hf⟩ := DataW.trod_struct Tryz.underlying61 h
  rw [cells_mi] at hlen
  match cs, hlen with
  | [v0, v1, v2, v3, v4, v5, v6, v7, v8], _ =>
    have hxl2 : xs.length = 9 := hxl
    match xs, hxl2 with
    | [x0, x1, x2, x3, x4, x5, x6, x7, x8], _ =>
      have t0 := hf 0 _ rfl
      have t1 := hf 1 _ rfl
      have t2 := hf 2 _ rfl
      have t3 := hf 3 _ rfl
      have t4 := hf 4 _ rfl
      have t5 := hf 5 _ rfl
      have t6 := hf 6 _ rfl
      have t7 := hf 7 _ rfl
      have t8 := hf 8 _ rfl
      replace t0 : DataW.trod enc Tryz.prog w base spare held n 3 [v0] = some x0 := t0
      replace t1 : DataW.trod enc Tryz.prog w base spare held n 55 [v1] = some x1 := t1
      replace t2 : DataW.trod enc Tryz.prog w base spare held n 3 [v2] = some x2 := t2
      replace t3 : DataW.trod enc Tryz.prog w base spare held n 3 [v3] = some x3 := t3
      replace t4 : DataW.trod enc Tryz.prog w base spare held n 56 [v4] = some x4 := t4
      replace t5 : DataW.trod enc Tryz.prog w base spare held n 57 [v5] = some x5 := t5
      replace t6 : DataW.trod enc Tryz.prog w base spare held n 57 [v6] = some x6 := t6
      replace t7 : DataW.trod enc Tryz.prog w base spare held n 58 [v7] = some x7 := t7
      replace t8 : DataW.trod enc Tryz.prog w base spare held n 59 [v8] = some x8 := t8
      obtain ⟨z0, e0, _, wf0⟩ := DataW.trod_int Tryz.underlying3 t0
      obtain ⟨z1, e1, _, wf1⟩ := DataW.trod_int Tryz.underlying55 t1
      obtain ⟨z2, e2, _, wf2⟩ := DataW.trod_int Tryz.underlying3 t2
      obtain ⟨z3, e3, _, wf3⟩ := DataW.trod_int Tryz.underlying3 t3
      obtain ⟨z4, e4, _, wf4⟩ := DataW.trod_int Tryz.underlying56 t4
      obtain ⟨D, c1, ds, e5, r5, q5, l5, _⟩ := open_slice_gen Tryz.underlying57 cells_pl (by omega) PlAt (fun p => InR p.n) (fun m cs y hm ht hl g o hc => open_pl ht g o hc) t5
      obtain ⟨E, c2, ss, e6, r6, q6, l6, _⟩ := open_slice_gen Tryz.underlying57 cells_pl (by omega) PlAt (fun p => InR p.n) (fun m cs y hm ht hl g o hc => open_pl ht g o hc) t6
      obtain ⟨T, c3, ts, rfl, r7, q7, l7, _⟩ := open_ints_ t7
      obtain ⟨z8, e8, _, wf8⟩ := DataW.trod_int Tryz.underlying59 t8
      obtain rfl : v0 = .int .i64 z0 := by simpa using e0
      obtain rfl : v1 = .int .i64 z1 := by simpa using e1
      obtain rfl : v2 = .int .i64 z2 := by simpa using e2
      obtain rfl : v3 = .int .i64 z3 := by simpa using e3
      obtain rfl : v4 = .int .u64 z4 := by simpa using e4
      obtain rfl : v5 = .slice D ds.length c1 := by simpa using e5
      obtain rfl : v6 = .slice E ss.length c2 := by simpa using e6
      obtain rfl : v8 = .int .i64 z8 := by simpa using e8
      obtain ⟨u1, u2⟩ := wf_u64 wf4
      refine ⟨⟨z0, z1, z2, z3, z4.toNat, ds, ss, ts, z8⟩, ⟨⟨D, c1, E, c2, T, c3, ?_, ⟨r5, r6, r7⟩, l5⟩, ⟨fun E' n' c' he => (by rw [hc 6 (by omega)] at he; simp at he; omega), fun E' n' c' he => (by rw [hc 7 (by omega)] at he; simp at he; omega)⟩⟩, ⟨wf_in wf0, wf_in wf1, wf_in wf2, wf_in wf3, u2, q5, q6, q7, wf_in wf8⟩⟩
      intro j v hj
      have hj9 : j < 9 := by
        rcases Nat.lt_or_ge j 9 with h9 | h9
        · exact h9
        · rw [Array.getElem?_eq_none (by unfold miV; exact h9)] at hj; cases hj
      rw [hc j hj9]
      unfold miV at hj
      dsimp only at hj
      rw [u1] at hj
      simpa using hj
end
set_option maxRecDepth 100000 in
/-- The parameter. -/
theorem open_mfC {H : Type} {enc : TypeId × Value → H} {w : World} {base : Nat} {held : Bool} {r : Reach} {b0 : Nat} {v : Value} {d : DataW H} {p : List MemPlace}
    (hv : Value.okWide Tryz.prog w r b0 39 v) (h : DataW.Trod enc Tryz.prog w base (fun _ => true) held 39 v d p) :
    ∃ (f : Mf) (P : Option Addr) (c1 : Nat) (R : Option Addr) (c2 : Nat) (C : Option Addr) (c3 : Nat), v = .agg (mfV f P c1 R c2 C c3) ∧ MfAt (fun g => g < w.heap.size) w f P R C ∧ InR f.slots ∧ (∀ x ∈ f.code, QMi x) ∧ f.code.length ≤ c3 ∧ c3 ≤ maxLen ∧ (∀ i, i < f.code.length → ∀ g o, C = some ⟨g, o, none⟩ → CapAt w g (o + i * 9)) := by
  obtain ⟨cs, rfl, hsz⟩ := okWide_struct Tryz.underlying39 hv
  rw [cells_mf] at hsz
  obtain ⟨fuel, hf⟩ := h
  obtain ⟨L⟩ := cs
  replace hf : DataW.trod enc Tryz.prog w base (fun _ => true) held fuel 39 L = some (d, p) := hf
  obtain ⟨xs, n, rfl, hdp, hlen, hxl, hf⟩ := DataW.trod_struct Tryz.underlying39 hf
  have hL4 : L.length = 4 := hsz
  match L, hL4 with
  | [v0, v1, v2, v3], _ =>
    have hxl3 : xs.length = 3 := hxl
    match xs, hxl3 with
    | [x0, x1, x2], _ =>
      have t0 := hf 0 _ rfl
      have t1 := hf 1 _ rfl
      have t2 := hf 2 _ rfl
      replace t0 : DataW.trod enc Tryz.prog w base (fun _ => true) held n 36 [v0, v1] = some x0 := t0
      replace t1 : DataW.trod enc Tryz.prog w base (fun _ => true) held n 3 [v2] = some x1 := t1
      replace t2 : DataW.trod enc Tryz.prog w base (fun _ => true) held n 37 [v3] = some x2 := t2
      obtain ⟨z, e2, _, wf⟩ := DataW.trod_int Tryz.underlying3 t1
      obtain ⟨C, c3, code, e3, hr3, hq3, hl3, hm3⟩ := open_slice_gen Tryz.underlying37 cells_mi (by omega) (fun w' g o x => MiAt (fun g => g < w.heap.size) w' g o x ∧ CapAt w' g o) QMi (fun m cs y hm ht hl g o hc => open_miC ht g o hc) t2
      obtain rfl : v2 = .int .i64 z := by simpa using e2
      obtain rfl : v3 = .slice C code.length c3 := by simpa using e3
      obtain ⟨xs', n', rfl, rfl, hlen', hxl', hf'⟩ := DataW.trod_struct Tryz.underlying36 t0
      have hxl4 : xs'.length = 2 := hxl'
      match xs', hxl4 with
      | [y0, y1], _ =>
        have s0 := hf' 0 _ rfl
        have s1 := hf' 1 _ rfl
        replace s0 : DataW.trod enc Tryz.prog w base (fun _ => true) held n' 34 [v0] = some y0 := s0
        replace s1 : DataW.trod enc Tryz.prog w base (fun _ => true) held n' 34 [v1] = some y1 := s1
        obtain ⟨A0, c0, ps, rfl, hr0, hq0, _, _⟩ := open_vals_ s0
        obtain ⟨A1, c1, rs, rfl, hr1, hq1, _, _⟩ := open_vals_ s1
        exact ⟨⟨ps, rs, z, code⟩, A0, c0, A1, c1, C, c3, rfl, ⟨hr0, hr1, RdT.mono hr3 (fun _ _ h => h) (fun _ _ _ h => h.1)⟩, wf_in wf, hq3, hl3, hm3, fun i hi g o e => by
          obtain ⟨g', o', e', _, _, h⟩ := hr3.get hi
          rw [e] at e'
          cases e'
          exact h.2⟩
end Go.Proofs.YtadnfekogmjieaaGreatDoor
