/-
  Layer 27, the reference: Parse. (Printed by gen_valrparse.py.)
-/
import Derived.Test.YtilflcbmejhepaaDoorValRef2
import Derived.Deep.CutBlock
set_option linter.unusedVariables false
set_option linter.unusedSimpArgs false
namespace Go.Proofs.YtilflcbmejhepaaDoor
open Go.RowKit
open Val (V)

theorem begins_len {s w : List UInt8} (h : Val.begins s w = true) : w.length ≤ s.length := by
  unfold Val.begins at h
  have := congrArg List.length (of_decide_eq_true h)
  rw [List.length_take] at this
  omega
theorem after_set (w : World) (t : Int) (n : Nat) : AfterGuess w ⟨t, n⟩ ((w.alloc (.cells #[.int .i64 0, .int .u64 0] 25)).alloc (.cells #[.int .i64 t, .int .u64 (n : Int)] 25)) := by
  refine ⟨(Var.new w _ _).alloc _, Var.newE (w.alloc _) _ _ (by simp), ((Below.refl w.heap.size w).alloc (Nat.le_refl _) _).alloc (by simp) _⟩
theorem at_code {F : World → Prop} {P : Program} {c : Code} {Q : Exit → Act → World → Prop} {a : Act} {Wx : World} (hf : F Wx) (h : ∀ w, F w → Code.wp P c Q a w) : Code.wp P c Q a Wx := h _ hf
/-- What the look at the text answers. -/
def Res (l : List UInt8) (v : V) : V × Bool := if l = [] ∨ Val.text v ≠ l then (⟨0, 0⟩, false) else (v, true)

set_option maxHeartbeats 16000000 in
set_option maxRecDepth 100000 in
theorem rparse_0m (l : List UInt8) (hl : l.length ≤ 1000000) (w : World)  (k0 : Val.begins l [105, 51, 50, 32] = true) (hm : Val.minus l = true) : Calls Tryd.prog 16 #[.string ⟨l.toArray⟩] w fun e w' => e = .returned (.tuple #[vv (Res l ⟨1, Val.sgn (Val.minus l) (Val.dg 0 (l.drop 4)) % 4294967296⟩).1, .bool (Res l ⟨1, Val.sgn (Val.minus l) (Val.dg 0 (l.drop 4)) % 4294967296⟩).2]) ∧ Below w.heap.size w w' := by
  have hb0 := fun W => begins_any l [105, 51, 50, 32] hl (by decide) W
  simp only [k0] at hb0
  have HB0 := Lib.hid hb0
  clear hb0
  have h4 : 4 ≤ l.length := begins_len k0
  have hlt := Val.dg_lt (l.drop 4) 0 (by omega)
  have hd := fun W => digits_any (l.drop 4) W (by rw [List.length_drop]; omega)
  have hmm := fun W => minus_any l W hl
  simp only [hm] at hmm
  rw [hm]
  obtain ⟨g, hg⟩ : ∃ g, Val.dg 0 (l.drop 4) = g := ⟨_, rfl⟩
  rw [hg] at hlt ⊢
  simp only [hg] at hd
  obtain ⟨q, hq⟩ : ∃ q, Val.sgn true g = q := ⟨_, rfl⟩
  rw [hq]
  unfold Val.sgn at hq
  rw [if_pos rfl] at hq
  have u0 : IntKind.u64.wrap (-(g : Int)) = (q : Int) := by rw [IntKind.wrap_u64]; omega
  have hqlt : q < 18446744073709551616 := by omega
  obtain ⟨n, hn⟩ : ∃ n, q % 4294967296 = n := ⟨_, rfl⟩
  rw [hn]
  have u1 : IntKind.u32.wrap (q : Int) = (n : Int) := by rw [IntKind.wrap_u32]; omega
  have u2 : IntKind.u64.wrap (n : Int) = (n : Int) := by rw [IntKind.wrap_u64]; omega
  have HT := Lib.hid (fun W => rtext_any ⟨1, n⟩ (by dsimp only; omega) W)
  have hx : (ByteArray.mk l.toArray).extract 4 (ByteArray.mk l.toArray).size = ⟨(l.drop 4).toArray⟩ := by
    rw [Lib.extract_eq]
    congr 2
    exact List.take_of_length_le (by rw [List.length_drop]; simp [ByteArray.size])
  simp only [← hx] at hd
  have HD := Lib.hid hd
  have HM := Lib.hid hmm
  have hsz : (ByteArray.mk l.toArray).size = l.length := by simp [ByteArray.size]
  clear hd hmm hx hg hm
  go_enter Tryd.func16, Tryd.ntmps16
  go_upto_region 20 with (first
    | (go_at_call 34; refine (HB0.out _).mono ?_; rintro e w1 ⟨rfl, rfl⟩)
    | (go_at_call 35; refine (HD.out _).mono ?_; rintro e w1 ⟨rfl, rfl⟩)
    | (go_at_call 36; refine (HM.out _).mono ?_; rintro e w1 ⟨rfl, rfl⟩))
  have HA := after_set w 1 n
  refine at_code (F := AfterGuess w ⟨1, n⟩) HA ?_
  rintro wx ⟨hv2, hv4, hbx⟩
  have y0 := hv4.cells 0
  have y1 := hv4.cells 1
  rcases he : (l == []) with _ | _
  · have hne : l ≠ [] := by simpa using he
    rcases htx : (Val.text ⟨1, n⟩ == l) with _ | _
    · have HP : Hid (Res l ⟨1, n⟩ = (⟨0, 0⟩, false)) := Lib.hid (if_pos (.inr (by simpa using htx)))
      obtain ⟨x, hx⟩ : ∃ x, Val.text ⟨1, n⟩ = x := ⟨_, rfl⟩
      rw [hx] at HT htx
      clear hne hx
      go_wp2_with (go_at_call 11; refine (HT.out _).mono ?_; rintro e w2 ⟨rfl, hb⟩; have hn := hv4.below hb hv4.lt; have hv := hv2.below hb hv2.lt; have r0 := hn.cells 0; have r1 := hn.cells 1; have r2 := hv.cells 0; have r3 := hv.cells 1; have z2 := hv.froz 0; have z3 := hv.froz 1; have HV2 := Lib.hid hv; have HB2 := Lib.hid (hbx.trans (hb.mono hbx.size)); clear hn hv hb)
      refine bodyPost_ret (results_cell_row_tmp rfl _ _ w.heap.size _ _ (0, 0) _ rfl ((HV2.out.set 0 _).set 1 _) Tryd.underlying25 rfl (by kernel_rfl)) rfl ?_
      exact ⟨by rw [HP.out]; rfl, below_set HB2.out (Nat.le_refl _) _ _⟩
    · have hx : Val.text ⟨1, n⟩ = l := by simpa using htx
      have HP : Hid (Res l ⟨1, n⟩ = (⟨1, n⟩, true)) := Lib.hid (if_neg (by rw [hx]; simpa using hne))
      rw [hx] at HT
      clear hne hx htx
      go_wp2_with (go_at_call 11; refine (HT.out _).mono ?_; rintro e w2 ⟨rfl, hb⟩; have hn := hv4.below hb hv4.lt; have hv := hv2.below hb hv2.lt; have r0 := hn.cells 0; have r1 := hn.cells 1; have r2 := hv.cells 0; have r3 := hv.cells 1; have z2 := hv.froz 0; have z3 := hv.froz 1; have HV2 := Lib.hid hv; have HB2 := Lib.hid (hbx.trans (hb.mono hbx.size)); clear hn hv hb)
      refine bodyPost_ret (results_cell_row_tmp rfl _ _ w.heap.size _ _ (0, 0) _ rfl ((HV2.out.set 0 _).set 1 _) Tryd.underlying25 rfl (by kernel_rfl)) rfl ?_
      exact ⟨by rw [HP.out]; rfl, below_set HB2.out (Nat.le_refl _) _ _⟩
  · have HP : Hid (Res l ⟨1, n⟩ = (⟨0, 0⟩, false)) := Lib.hid (if_pos (.inl (by simpa using he)))
    have r2 := hv2.cells 0
    have r3 := hv2.cells 1
    have z2 := hv2.froz 0
    have z3 := hv2.froz 1
    go_wp2
    refine bodyPost_ret (results_cell_row_tmp rfl _ _ w.heap.size _ _ (0, 0) _ rfl ((hv2.set 0 _).set 1 _) Tryd.underlying25 rfl (by kernel_rfl)) rfl ?_
    exact ⟨by rw [HP.out]; rfl, below_set hbx (Nat.le_refl _) _ _⟩

set_option maxHeartbeats 16000000 in
set_option maxRecDepth 100000 in
theorem rparse_0p (l : List UInt8) (hl : l.length ≤ 1000000) (w : World)  (k0 : Val.begins l [105, 51, 50, 32] = true) (hm : Val.minus l = false) : Calls Tryd.prog 16 #[.string ⟨l.toArray⟩] w fun e w' => e = .returned (.tuple #[vv (Res l ⟨1, Val.sgn (Val.minus l) (Val.dg 0 (l.drop 4)) % 4294967296⟩).1, .bool (Res l ⟨1, Val.sgn (Val.minus l) (Val.dg 0 (l.drop 4)) % 4294967296⟩).2]) ∧ Below w.heap.size w w' := by
  have hb0 := fun W => begins_any l [105, 51, 50, 32] hl (by decide) W
  simp only [k0] at hb0
  have HB0 := Lib.hid hb0
  clear hb0
  have h4 : 4 ≤ l.length := begins_len k0
  have hlt := Val.dg_lt (l.drop 4) 0 (by omega)
  have hd := fun W => digits_any (l.drop 4) W (by rw [List.length_drop]; omega)
  have hmm := fun W => minus_any l W hl
  simp only [hm] at hmm
  rw [hm]
  obtain ⟨g, hg⟩ : ∃ g, Val.dg 0 (l.drop 4) = g := ⟨_, rfl⟩
  rw [hg] at hlt ⊢
  simp only [hg] at hd
  obtain ⟨q, hq⟩ : ∃ q, Val.sgn false g = q := ⟨_, rfl⟩
  rw [hq]
  unfold Val.sgn at hq
  rw [if_neg (by decide)] at hq
  obtain rfl : g = q := hq
  have hqlt : g < 18446744073709551616 := by omega
  obtain ⟨n, hn⟩ : ∃ n, g % 4294967296 = n := ⟨_, rfl⟩
  rw [hn]
  have u1 : IntKind.u32.wrap (g : Int) = (n : Int) := by rw [IntKind.wrap_u32]; omega
  have u2 : IntKind.u64.wrap (n : Int) = (n : Int) := by rw [IntKind.wrap_u64]; omega
  have HT := Lib.hid (fun W => rtext_any ⟨1, n⟩ (by dsimp only; omega) W)
  have hx : (ByteArray.mk l.toArray).extract 4 (ByteArray.mk l.toArray).size = ⟨(l.drop 4).toArray⟩ := by
    rw [Lib.extract_eq]
    congr 2
    exact List.take_of_length_le (by rw [List.length_drop]; simp [ByteArray.size])
  simp only [← hx] at hd
  have HD := Lib.hid hd
  have HM := Lib.hid hmm
  have hsz : (ByteArray.mk l.toArray).size = l.length := by simp [ByteArray.size]
  clear hd hmm hx hg hm
  go_enter Tryd.func16, Tryd.ntmps16
  go_upto_region 20 with (first
    | (go_at_call 34; refine (HB0.out _).mono ?_; rintro e w1 ⟨rfl, rfl⟩)
    | (go_at_call 35; refine (HD.out _).mono ?_; rintro e w1 ⟨rfl, rfl⟩)
    | (go_at_call 36; refine (HM.out _).mono ?_; rintro e w1 ⟨rfl, rfl⟩))
  have HA := after_set w 1 n
  refine at_code (F := AfterGuess w ⟨1, n⟩) HA ?_
  rintro wx ⟨hv2, hv4, hbx⟩
  have y0 := hv4.cells 0
  have y1 := hv4.cells 1
  rcases he : (l == []) with _ | _
  · have hne : l ≠ [] := by simpa using he
    rcases htx : (Val.text ⟨1, n⟩ == l) with _ | _
    · have HP : Hid (Res l ⟨1, n⟩ = (⟨0, 0⟩, false)) := Lib.hid (if_pos (.inr (by simpa using htx)))
      obtain ⟨x, hx⟩ : ∃ x, Val.text ⟨1, n⟩ = x := ⟨_, rfl⟩
      rw [hx] at HT htx
      clear hne hx
      go_wp2_with (go_at_call 11; refine (HT.out _).mono ?_; rintro e w2 ⟨rfl, hb⟩; have hn := hv4.below hb hv4.lt; have hv := hv2.below hb hv2.lt; have r0 := hn.cells 0; have r1 := hn.cells 1; have r2 := hv.cells 0; have r3 := hv.cells 1; have z2 := hv.froz 0; have z3 := hv.froz 1; have HV2 := Lib.hid hv; have HB2 := Lib.hid (hbx.trans (hb.mono hbx.size)); clear hn hv hb)
      refine bodyPost_ret (results_cell_row_tmp rfl _ _ w.heap.size _ _ (0, 0) _ rfl ((HV2.out.set 0 _).set 1 _) Tryd.underlying25 rfl (by kernel_rfl)) rfl ?_
      exact ⟨by rw [HP.out]; rfl, below_set HB2.out (Nat.le_refl _) _ _⟩
    · have hx : Val.text ⟨1, n⟩ = l := by simpa using htx
      have HP : Hid (Res l ⟨1, n⟩ = (⟨1, n⟩, true)) := Lib.hid (if_neg (by rw [hx]; simpa using hne))
      rw [hx] at HT
      clear hne hx htx
      go_wp2_with (go_at_call 11; refine (HT.out _).mono ?_; rintro e w2 ⟨rfl, hb⟩; have hn := hv4.below hb hv4.lt; have hv := hv2.below hb hv2.lt; have r0 := hn.cells 0; have r1 := hn.cells 1; have r2 := hv.cells 0; have r3 := hv.cells 1; have z2 := hv.froz 0; have z3 := hv.froz 1; have HV2 := Lib.hid hv; have HB2 := Lib.hid (hbx.trans (hb.mono hbx.size)); clear hn hv hb)
      refine bodyPost_ret (results_cell_row_tmp rfl _ _ w.heap.size _ _ (0, 0) _ rfl ((HV2.out.set 0 _).set 1 _) Tryd.underlying25 rfl (by kernel_rfl)) rfl ?_
      exact ⟨by rw [HP.out]; rfl, below_set HB2.out (Nat.le_refl _) _ _⟩
  · have HP : Hid (Res l ⟨1, n⟩ = (⟨0, 0⟩, false)) := Lib.hid (if_pos (.inl (by simpa using he)))
    have r2 := hv2.cells 0
    have r3 := hv2.cells 1
    have z2 := hv2.froz 0
    have z3 := hv2.froz 1
    go_wp2
    refine bodyPost_ret (results_cell_row_tmp rfl _ _ w.heap.size _ _ (0, 0) _ rfl ((hv2.set 0 _).set 1 _) Tryd.underlying25 rfl (by kernel_rfl)) rfl ?_
    exact ⟨by rw [HP.out]; rfl, below_set hbx (Nat.le_refl _) _ _⟩

set_option maxHeartbeats 16000000 in
set_option maxRecDepth 100000 in
theorem rparse_1m (l : List UInt8) (hl : l.length ≤ 1000000) (w : World)  (k0 : Val.begins l [105, 51, 50, 32] = false) (k1 : Val.begins l [105, 54, 52, 32] = true) (hm : Val.minus l = true) : Calls Tryd.prog 16 #[.string ⟨l.toArray⟩] w fun e w' => e = .returned (.tuple #[vv (Res l ⟨2, Val.sgn (Val.minus l) (Val.dg 0 (l.drop 4))⟩).1, .bool (Res l ⟨2, Val.sgn (Val.minus l) (Val.dg 0 (l.drop 4))⟩).2]) ∧ Below w.heap.size w w' := by
  have hb0 := fun W => begins_any l [105, 51, 50, 32] hl (by decide) W
  simp only [k0] at hb0
  have HB0 := Lib.hid hb0
  clear hb0
  have hb1 := fun W => begins_any l [105, 54, 52, 32] hl (by decide) W
  simp only [k1] at hb1
  have HB1 := Lib.hid hb1
  clear hb1
  have h4 : 4 ≤ l.length := begins_len k1
  have hlt := Val.dg_lt (l.drop 4) 0 (by omega)
  have hd := fun W => digits_any (l.drop 4) W (by rw [List.length_drop]; omega)
  have hmm := fun W => minus_any l W hl
  simp only [hm] at hmm
  rw [hm]
  obtain ⟨g, hg⟩ : ∃ g, Val.dg 0 (l.drop 4) = g := ⟨_, rfl⟩
  rw [hg] at hlt ⊢
  simp only [hg] at hd
  obtain ⟨q, hq⟩ : ∃ q, Val.sgn true g = q := ⟨_, rfl⟩
  rw [hq]
  unfold Val.sgn at hq
  rw [if_pos rfl] at hq
  have u0 : IntKind.u64.wrap (-(g : Int)) = (q : Int) := by rw [IntKind.wrap_u64]; omega
  have hqlt : q < 18446744073709551616 := by omega
  obtain ⟨n, hn⟩ : ∃ n, q = n := ⟨_, rfl⟩
  obtain rfl := hn
  have HT := Lib.hid (fun W => rtext_any ⟨2, q⟩ (by dsimp only; omega) W)
  have hx : (ByteArray.mk l.toArray).extract 4 (ByteArray.mk l.toArray).size = ⟨(l.drop 4).toArray⟩ := by
    rw [Lib.extract_eq]
    congr 2
    exact List.take_of_length_le (by rw [List.length_drop]; simp [ByteArray.size])
  simp only [← hx] at hd
  have HD := Lib.hid hd
  have HM := Lib.hid hmm
  have hsz : (ByteArray.mk l.toArray).size = l.length := by simp [ByteArray.size]
  clear hd hmm hx hg hm
  go_enter Tryd.func16, Tryd.ntmps16
  go_upto_region 7 with (go_at_call 34; refine (HB0.out _).mono ?_; rintro e w1 ⟨rfl, rfl⟩)
  go_upto_region 20 with (first
    | (go_at_call 34; refine (HB1.out _).mono ?_; rintro e w1 ⟨rfl, rfl⟩)
    | (go_at_call 35; refine (HD.out _).mono ?_; rintro e w1 ⟨rfl, rfl⟩)
    | (go_at_call 36; refine (HM.out _).mono ?_; rintro e w1 ⟨rfl, rfl⟩))
  have HA := after_set w 2 q
  refine at_code (F := AfterGuess w ⟨2, q⟩) HA ?_
  rintro wx ⟨hv2, hv4, hbx⟩
  have y0 := hv4.cells 0
  have y1 := hv4.cells 1
  rcases he : (l == []) with _ | _
  · have hne : l ≠ [] := by simpa using he
    rcases htx : (Val.text ⟨2, q⟩ == l) with _ | _
    · have HP : Hid (Res l ⟨2, q⟩ = (⟨0, 0⟩, false)) := Lib.hid (if_pos (.inr (by simpa using htx)))
      obtain ⟨x, hx⟩ : ∃ x, Val.text ⟨2, q⟩ = x := ⟨_, rfl⟩
      rw [hx] at HT htx
      clear hne hx
      go_wp2_with (go_at_call 11; refine (HT.out _).mono ?_; rintro e w2 ⟨rfl, hb⟩; have hn := hv4.below hb hv4.lt; have hv := hv2.below hb hv2.lt; have r0 := hn.cells 0; have r1 := hn.cells 1; have r2 := hv.cells 0; have r3 := hv.cells 1; have z2 := hv.froz 0; have z3 := hv.froz 1; have HV2 := Lib.hid hv; have HB2 := Lib.hid (hbx.trans (hb.mono hbx.size)); clear hn hv hb)
      refine bodyPost_ret (results_cell_row_tmp rfl _ _ w.heap.size _ _ (0, 0) _ rfl ((HV2.out.set 0 _).set 1 _) Tryd.underlying25 rfl (by kernel_rfl)) rfl ?_
      exact ⟨by rw [HP.out]; rfl, below_set HB2.out (Nat.le_refl _) _ _⟩
    · have hx : Val.text ⟨2, q⟩ = l := by simpa using htx
      have HP : Hid (Res l ⟨2, q⟩ = (⟨2, q⟩, true)) := Lib.hid (if_neg (by rw [hx]; simpa using hne))
      rw [hx] at HT
      clear hne hx htx
      go_wp2_with (go_at_call 11; refine (HT.out _).mono ?_; rintro e w2 ⟨rfl, hb⟩; have hn := hv4.below hb hv4.lt; have hv := hv2.below hb hv2.lt; have r0 := hn.cells 0; have r1 := hn.cells 1; have r2 := hv.cells 0; have r3 := hv.cells 1; have z2 := hv.froz 0; have z3 := hv.froz 1; have HV2 := Lib.hid hv; have HB2 := Lib.hid (hbx.trans (hb.mono hbx.size)); clear hn hv hb)
      refine bodyPost_ret (results_cell_row_tmp rfl _ _ w.heap.size _ _ (0, 0) _ rfl ((HV2.out.set 0 _).set 1 _) Tryd.underlying25 rfl (by kernel_rfl)) rfl ?_
      exact ⟨by rw [HP.out]; rfl, below_set HB2.out (Nat.le_refl _) _ _⟩
  · have HP : Hid (Res l ⟨2, q⟩ = (⟨0, 0⟩, false)) := Lib.hid (if_pos (.inl (by simpa using he)))
    have r2 := hv2.cells 0
    have r3 := hv2.cells 1
    have z2 := hv2.froz 0
    have z3 := hv2.froz 1
    go_wp2
    refine bodyPost_ret (results_cell_row_tmp rfl _ _ w.heap.size _ _ (0, 0) _ rfl ((hv2.set 0 _).set 1 _) Tryd.underlying25 rfl (by kernel_rfl)) rfl ?_
    exact ⟨by rw [HP.out]; rfl, below_set hbx (Nat.le_refl _) _ _⟩

set_option maxHeartbeats 16000000 in
set_option maxRecDepth 100000 in
theorem rparse_1p (l : List UInt8) (hl : l.length ≤ 1000000) (w : World)  (k0 : Val.begins l [105, 51, 50, 32] = false) (k1 : Val.begins l [105, 54, 52, 32] = true) (hm : Val.minus l = false) : Calls Tryd.prog 16 #[.string ⟨l.toArray⟩] w fun e w' => e = .returned (.tuple #[vv (Res l ⟨2, Val.sgn (Val.minus l) (Val.dg 0 (l.drop 4))⟩).1, .bool (Res l ⟨2, Val.sgn (Val.minus l) (Val.dg 0 (l.drop 4))⟩).2]) ∧ Below w.heap.size w w' := by
  have hb0 := fun W => begins_any l [105, 51, 50, 32] hl (by decide) W
  simp only [k0] at hb0
  have HB0 := Lib.hid hb0
  clear hb0
  have hb1 := fun W => begins_any l [105, 54, 52, 32] hl (by decide) W
  simp only [k1] at hb1
  have HB1 := Lib.hid hb1
  clear hb1
  have h4 : 4 ≤ l.length := begins_len k1
  have hlt := Val.dg_lt (l.drop 4) 0 (by omega)
  have hd := fun W => digits_any (l.drop 4) W (by rw [List.length_drop]; omega)
  have hmm := fun W => minus_any l W hl
  simp only [hm] at hmm
  rw [hm]
  obtain ⟨g, hg⟩ : ∃ g, Val.dg 0 (l.drop 4) = g := ⟨_, rfl⟩
  rw [hg] at hlt ⊢
  simp only [hg] at hd
  obtain ⟨q, hq⟩ : ∃ q, Val.sgn false g = q := ⟨_, rfl⟩
  rw [hq]
  unfold Val.sgn at hq
  rw [if_neg (by decide)] at hq
  obtain rfl : g = q := hq
  have hqlt : g < 18446744073709551616 := by omega
  obtain ⟨n, hn⟩ : ∃ n, g = n := ⟨_, rfl⟩
  obtain rfl := hn
  have HT := Lib.hid (fun W => rtext_any ⟨2, g⟩ (by dsimp only; omega) W)
  have hx : (ByteArray.mk l.toArray).extract 4 (ByteArray.mk l.toArray).size = ⟨(l.drop 4).toArray⟩ := by
    rw [Lib.extract_eq]
    congr 2
    exact List.take_of_length_le (by rw [List.length_drop]; simp [ByteArray.size])
  simp only [← hx] at hd
  have HD := Lib.hid hd
  have HM := Lib.hid hmm
  have hsz : (ByteArray.mk l.toArray).size = l.length := by simp [ByteArray.size]
  clear hd hmm hx hg hm
  go_enter Tryd.func16, Tryd.ntmps16
  go_upto_region 7 with (go_at_call 34; refine (HB0.out _).mono ?_; rintro e w1 ⟨rfl, rfl⟩)
  go_upto_region 20 with (first
    | (go_at_call 34; refine (HB1.out _).mono ?_; rintro e w1 ⟨rfl, rfl⟩)
    | (go_at_call 35; refine (HD.out _).mono ?_; rintro e w1 ⟨rfl, rfl⟩)
    | (go_at_call 36; refine (HM.out _).mono ?_; rintro e w1 ⟨rfl, rfl⟩))
  have HA := after_set w 2 g
  refine at_code (F := AfterGuess w ⟨2, g⟩) HA ?_
  rintro wx ⟨hv2, hv4, hbx⟩
  have y0 := hv4.cells 0
  have y1 := hv4.cells 1
  rcases he : (l == []) with _ | _
  · have hne : l ≠ [] := by simpa using he
    rcases htx : (Val.text ⟨2, g⟩ == l) with _ | _
    · have HP : Hid (Res l ⟨2, g⟩ = (⟨0, 0⟩, false)) := Lib.hid (if_pos (.inr (by simpa using htx)))
      obtain ⟨x, hx⟩ : ∃ x, Val.text ⟨2, g⟩ = x := ⟨_, rfl⟩
      rw [hx] at HT htx
      clear hne hx
      go_wp2_with (go_at_call 11; refine (HT.out _).mono ?_; rintro e w2 ⟨rfl, hb⟩; have hn := hv4.below hb hv4.lt; have hv := hv2.below hb hv2.lt; have r0 := hn.cells 0; have r1 := hn.cells 1; have r2 := hv.cells 0; have r3 := hv.cells 1; have z2 := hv.froz 0; have z3 := hv.froz 1; have HV2 := Lib.hid hv; have HB2 := Lib.hid (hbx.trans (hb.mono hbx.size)); clear hn hv hb)
      refine bodyPost_ret (results_cell_row_tmp rfl _ _ w.heap.size _ _ (0, 0) _ rfl ((HV2.out.set 0 _).set 1 _) Tryd.underlying25 rfl (by kernel_rfl)) rfl ?_
      exact ⟨by rw [HP.out]; rfl, below_set HB2.out (Nat.le_refl _) _ _⟩
    · have hx : Val.text ⟨2, g⟩ = l := by simpa using htx
      have HP : Hid (Res l ⟨2, g⟩ = (⟨2, g⟩, true)) := Lib.hid (if_neg (by rw [hx]; simpa using hne))
      rw [hx] at HT
      clear hne hx htx
      go_wp2_with (go_at_call 11; refine (HT.out _).mono ?_; rintro e w2 ⟨rfl, hb⟩; have hn := hv4.below hb hv4.lt; have hv := hv2.below hb hv2.lt; have r0 := hn.cells 0; have r1 := hn.cells 1; have r2 := hv.cells 0; have r3 := hv.cells 1; have z2 := hv.froz 0; have z3 := hv.froz 1; have HV2 := Lib.hid hv; have HB2 := Lib.hid (hbx.trans (hb.mono hbx.size)); clear hn hv hb)
      refine bodyPost_ret (results_cell_row_tmp rfl _ _ w.heap.size _ _ (0, 0) _ rfl ((HV2.out.set 0 _).set 1 _) Tryd.underlying25 rfl (by kernel_rfl)) rfl ?_
      exact ⟨by rw [HP.out]; rfl, below_set HB2.out (Nat.le_refl _) _ _⟩
  · have HP : Hid (Res l ⟨2, g⟩ = (⟨0, 0⟩, false)) := Lib.hid (if_pos (.inl (by simpa using he)))
    have r2 := hv2.cells 0
    have r3 := hv2.cells 1
    have z2 := hv2.froz 0
    have z3 := hv2.froz 1
    go_wp2
    refine bodyPost_ret (results_cell_row_tmp rfl _ _ w.heap.size _ _ (0, 0) _ rfl ((hv2.set 0 _).set 1 _) Tryd.underlying25 rfl (by kernel_rfl)) rfl ?_
    exact ⟨by rw [HP.out]; rfl, below_set hbx (Nat.le_refl _) _ _⟩

set_option maxHeartbeats 16000000 in
set_option maxRecDepth 100000 in
theorem rparse_2 (l : List UInt8) (hl : l.length ≤ 1000000) (w : World)  (k0 : Val.begins l [105, 51, 50, 32] = false) (k1 : Val.begins l [105, 54, 52, 32] = false) (k2 : (l == [114, 101, 102, 46, 110, 117, 108, 108, 32, 102, 117, 110, 99]) = true) : Calls Tryd.prog 16 #[.string ⟨l.toArray⟩] w fun e w' => e = .returned (.tuple #[vv (Res l ⟨3, 0⟩).1, .bool (Res l ⟨3, 0⟩).2]) ∧ Below w.heap.size w w' := by
  have hb0 := fun W => begins_any l [105, 51, 50, 32] hl (by decide) W
  simp only [k0] at hb0
  have HB0 := Lib.hid hb0
  clear hb0
  have hb1 := fun W => begins_any l [105, 54, 52, 32] hl (by decide) W
  simp only [k1] at hb1
  have HB1 := Lib.hid hb1
  clear hb1
  have HT := Lib.hid (fun W => rtext_any ⟨3, 0⟩ (by dsimp only; omega) W)
  have hsz : (ByteArray.mk l.toArray).size = l.length := by simp [ByteArray.size]
  go_enter Tryd.func16, Tryd.ntmps16
  go_upto_region 7 with (go_at_call 34; refine (HB0.out _).mono ?_; rintro e w1 ⟨rfl, rfl⟩)
  go_upto_region 20 with (first
    | (go_at_call 34; refine (HB1.out _).mono ?_; rintro e w1 ⟨rfl, rfl⟩))
  have HA := after_set w 3 0
  refine at_code (F := AfterGuess w ⟨3, 0⟩) HA ?_
  rintro wx ⟨hv2, hv4, hbx⟩
  have y0 := hv4.cells 0
  have y1 := hv4.cells 1
  rcases he : (l == []) with _ | _
  · have hne : l ≠ [] := by simpa using he
    rcases htx : (Val.text ⟨3, 0⟩ == l) with _ | _
    · have HP : Hid (Res l ⟨3, 0⟩ = (⟨0, 0⟩, false)) := Lib.hid (if_pos (.inr (by simpa using htx)))
      obtain ⟨x, hx⟩ : ∃ x, Val.text ⟨3, 0⟩ = x := ⟨_, rfl⟩
      rw [hx] at HT htx
      clear hne hx
      go_wp2_with (go_at_call 11; refine (HT.out _).mono ?_; rintro e w2 ⟨rfl, hb⟩; have hn := hv4.below hb hv4.lt; have hv := hv2.below hb hv2.lt; have r0 := hn.cells 0; have r1 := hn.cells 1; have r2 := hv.cells 0; have r3 := hv.cells 1; have z2 := hv.froz 0; have z3 := hv.froz 1; have HV2 := Lib.hid hv; have HB2 := Lib.hid (hbx.trans (hb.mono hbx.size)); clear hn hv hb)
      refine bodyPost_ret (results_cell_row_tmp rfl _ _ w.heap.size _ _ (0, 0) _ rfl ((HV2.out.set 0 _).set 1 _) Tryd.underlying25 rfl (by kernel_rfl)) rfl ?_
      exact ⟨by rw [HP.out]; rfl, below_set HB2.out (Nat.le_refl _) _ _⟩
    · have hx : Val.text ⟨3, 0⟩ = l := by simpa using htx
      have HP : Hid (Res l ⟨3, 0⟩ = (⟨3, 0⟩, true)) := Lib.hid (if_neg (by rw [hx]; simpa using hne))
      rw [hx] at HT
      clear hne hx htx
      go_wp2_with (go_at_call 11; refine (HT.out _).mono ?_; rintro e w2 ⟨rfl, hb⟩; have hn := hv4.below hb hv4.lt; have hv := hv2.below hb hv2.lt; have r0 := hn.cells 0; have r1 := hn.cells 1; have r2 := hv.cells 0; have r3 := hv.cells 1; have z2 := hv.froz 0; have z3 := hv.froz 1; have HV2 := Lib.hid hv; have HB2 := Lib.hid (hbx.trans (hb.mono hbx.size)); clear hn hv hb)
      refine bodyPost_ret (results_cell_row_tmp rfl _ _ w.heap.size _ _ (0, 0) _ rfl ((HV2.out.set 0 _).set 1 _) Tryd.underlying25 rfl (by kernel_rfl)) rfl ?_
      exact ⟨by rw [HP.out]; rfl, below_set HB2.out (Nat.le_refl _) _ _⟩
  · have HP : Hid (Res l ⟨3, 0⟩ = (⟨0, 0⟩, false)) := Lib.hid (if_pos (.inl (by simpa using he)))
    have r2 := hv2.cells 0
    have r3 := hv2.cells 1
    have z2 := hv2.froz 0
    have z3 := hv2.froz 1
    go_wp2
    refine bodyPost_ret (results_cell_row_tmp rfl _ _ w.heap.size _ _ (0, 0) _ rfl ((hv2.set 0 _).set 1 _) Tryd.underlying25 rfl (by kernel_rfl)) rfl ?_
    exact ⟨by rw [HP.out]; rfl, below_set hbx (Nat.le_refl _) _ _⟩

set_option maxHeartbeats 16000000 in
set_option maxRecDepth 100000 in
theorem rparse_3 (l : List UInt8) (hl : l.length ≤ 1000000) (w : World)  (k0 : Val.begins l [105, 51, 50, 32] = false) (k1 : Val.begins l [105, 54, 52, 32] = false) (k2 : (l == [114, 101, 102, 46, 110, 117, 108, 108, 32, 102, 117, 110, 99]) = false) (k3 : (l == [114, 101, 102, 46, 110, 117, 108, 108, 32, 101, 120, 116, 101, 114, 110]) = true) : Calls Tryd.prog 16 #[.string ⟨l.toArray⟩] w fun e w' => e = .returned (.tuple #[vv (Res l ⟨4, 0⟩).1, .bool (Res l ⟨4, 0⟩).2]) ∧ Below w.heap.size w w' := by
  have hb0 := fun W => begins_any l [105, 51, 50, 32] hl (by decide) W
  simp only [k0] at hb0
  have HB0 := Lib.hid hb0
  clear hb0
  have hb1 := fun W => begins_any l [105, 54, 52, 32] hl (by decide) W
  simp only [k1] at hb1
  have HB1 := Lib.hid hb1
  clear hb1
  have HT := Lib.hid (fun W => rtext_any ⟨4, 0⟩ (by dsimp only; omega) W)
  have hsz : (ByteArray.mk l.toArray).size = l.length := by simp [ByteArray.size]
  go_enter Tryd.func16, Tryd.ntmps16
  go_upto_region 7 with (go_at_call 34; refine (HB0.out _).mono ?_; rintro e w1 ⟨rfl, rfl⟩)
  go_upto_region 20 with (first
    | (go_at_call 34; refine (HB1.out _).mono ?_; rintro e w1 ⟨rfl, rfl⟩))
  have HA := after_set w 4 0
  refine at_code (F := AfterGuess w ⟨4, 0⟩) HA ?_
  rintro wx ⟨hv2, hv4, hbx⟩
  have y0 := hv4.cells 0
  have y1 := hv4.cells 1
  rcases he : (l == []) with _ | _
  · have hne : l ≠ [] := by simpa using he
    rcases htx : (Val.text ⟨4, 0⟩ == l) with _ | _
    · have HP : Hid (Res l ⟨4, 0⟩ = (⟨0, 0⟩, false)) := Lib.hid (if_pos (.inr (by simpa using htx)))
      obtain ⟨x, hx⟩ : ∃ x, Val.text ⟨4, 0⟩ = x := ⟨_, rfl⟩
      rw [hx] at HT htx
      clear hne hx
      go_wp2_with (go_at_call 11; refine (HT.out _).mono ?_; rintro e w2 ⟨rfl, hb⟩; have hn := hv4.below hb hv4.lt; have hv := hv2.below hb hv2.lt; have r0 := hn.cells 0; have r1 := hn.cells 1; have r2 := hv.cells 0; have r3 := hv.cells 1; have z2 := hv.froz 0; have z3 := hv.froz 1; have HV2 := Lib.hid hv; have HB2 := Lib.hid (hbx.trans (hb.mono hbx.size)); clear hn hv hb)
      refine bodyPost_ret (results_cell_row_tmp rfl _ _ w.heap.size _ _ (0, 0) _ rfl ((HV2.out.set 0 _).set 1 _) Tryd.underlying25 rfl (by kernel_rfl)) rfl ?_
      exact ⟨by rw [HP.out]; rfl, below_set HB2.out (Nat.le_refl _) _ _⟩
    · have hx : Val.text ⟨4, 0⟩ = l := by simpa using htx
      have HP : Hid (Res l ⟨4, 0⟩ = (⟨4, 0⟩, true)) := Lib.hid (if_neg (by rw [hx]; simpa using hne))
      rw [hx] at HT
      clear hne hx htx
      go_wp2_with (go_at_call 11; refine (HT.out _).mono ?_; rintro e w2 ⟨rfl, hb⟩; have hn := hv4.below hb hv4.lt; have hv := hv2.below hb hv2.lt; have r0 := hn.cells 0; have r1 := hn.cells 1; have r2 := hv.cells 0; have r3 := hv.cells 1; have z2 := hv.froz 0; have z3 := hv.froz 1; have HV2 := Lib.hid hv; have HB2 := Lib.hid (hbx.trans (hb.mono hbx.size)); clear hn hv hb)
      refine bodyPost_ret (results_cell_row_tmp rfl _ _ w.heap.size _ _ (0, 0) _ rfl ((HV2.out.set 0 _).set 1 _) Tryd.underlying25 rfl (by kernel_rfl)) rfl ?_
      exact ⟨by rw [HP.out]; rfl, below_set HB2.out (Nat.le_refl _) _ _⟩
  · have HP : Hid (Res l ⟨4, 0⟩ = (⟨0, 0⟩, false)) := Lib.hid (if_pos (.inl (by simpa using he)))
    have r2 := hv2.cells 0
    have r3 := hv2.cells 1
    have z2 := hv2.froz 0
    have z3 := hv2.froz 1
    go_wp2
    refine bodyPost_ret (results_cell_row_tmp rfl _ _ w.heap.size _ _ (0, 0) _ rfl ((hv2.set 0 _).set 1 _) Tryd.underlying25 rfl (by kernel_rfl)) rfl ?_
    exact ⟨by rw [HP.out]; rfl, below_set hbx (Nat.le_refl _) _ _⟩

set_option maxHeartbeats 16000000 in
set_option maxRecDepth 100000 in
theorem rparse_4 (l : List UInt8) (hl : l.length ≤ 1000000) (w : World)  (k0 : Val.begins l [105, 51, 50, 32] = false) (k1 : Val.begins l [105, 54, 52, 32] = false) (k2 : (l == [114, 101, 102, 46, 110, 117, 108, 108, 32, 102, 117, 110, 99]) = false) (k3 : (l == [114, 101, 102, 46, 110, 117, 108, 108, 32, 101, 120, 116, 101, 114, 110]) = false) (k4 : Val.begins l [114, 101, 102, 46, 102, 117, 110, 99, 32] = true) : Calls Tryd.prog 16 #[.string ⟨l.toArray⟩] w fun e w' => e = .returned (.tuple #[vv (Res l ⟨3, (Val.dg 0 l + 1) % 18446744073709551616⟩).1, .bool (Res l ⟨3, (Val.dg 0 l + 1) % 18446744073709551616⟩).2]) ∧ Below w.heap.size w w' := by
  have hb0 := fun W => begins_any l [105, 51, 50, 32] hl (by decide) W
  simp only [k0] at hb0
  have HB0 := Lib.hid hb0
  clear hb0
  have hb1 := fun W => begins_any l [105, 54, 52, 32] hl (by decide) W
  simp only [k1] at hb1
  have HB1 := Lib.hid hb1
  clear hb1
  have hb4 := fun W => begins_any l [114, 101, 102, 46, 102, 117, 110, 99, 32] hl (by decide) W
  simp only [k4] at hb4
  have HB4 := Lib.hid hb4
  clear hb4
  have hlt := Val.dg_lt l 0 (by omega)
  have hd := fun W => digits_any l W hl
  obtain ⟨g, hg⟩ : ∃ g, Val.dg 0 l = g := ⟨_, rfl⟩
  rw [hg] at hlt ⊢
  simp only [hg] at hd
  obtain ⟨q, hq⟩ : ∃ q, (g + 1) % 18446744073709551616 = q := ⟨_, rfl⟩
  rw [hq]
  have u0 : IntKind.u64.wrap ((g : Int) + 1) = (q : Int) := by rw [IntKind.wrap_u64]; omega
  have HT := Lib.hid (fun W => rtext_any ⟨3, q⟩ (by dsimp only; omega) W)
  have HD := Lib.hid hd
  have hsz : (ByteArray.mk l.toArray).size = l.length := by simp [ByteArray.size]
  clear hd hg hq
  go_enter Tryd.func16, Tryd.ntmps16
  go_upto_region 7 with (go_at_call 34; refine (HB0.out _).mono ?_; rintro e w1 ⟨rfl, rfl⟩)
  go_upto_region 16 with (go_at_call 34; refine (HB1.out _).mono ?_; rintro e w1 ⟨rfl, rfl⟩)
  go_upto_region 20 with (first
    | (go_at_call 34; refine (HB4.out _).mono ?_; rintro e w1 ⟨rfl, rfl⟩)
    | (go_at_call 35; refine (HD.out _).mono ?_; rintro e w1 ⟨rfl, rfl⟩))
  have HA := after_set w 3 q
  refine at_code (F := AfterGuess w ⟨3, q⟩) HA ?_
  rintro wx ⟨hv2, hv4, hbx⟩
  have y0 := hv4.cells 0
  have y1 := hv4.cells 1
  rcases he : (l == []) with _ | _
  · have hne : l ≠ [] := by simpa using he
    rcases htx : (Val.text ⟨3, q⟩ == l) with _ | _
    · have HP : Hid (Res l ⟨3, q⟩ = (⟨0, 0⟩, false)) := Lib.hid (if_pos (.inr (by simpa using htx)))
      obtain ⟨x, hx⟩ : ∃ x, Val.text ⟨3, q⟩ = x := ⟨_, rfl⟩
      rw [hx] at HT htx
      clear hne hx
      go_wp2_with (go_at_call 11; refine (HT.out _).mono ?_; rintro e w2 ⟨rfl, hb⟩; have hn := hv4.below hb hv4.lt; have hv := hv2.below hb hv2.lt; have r0 := hn.cells 0; have r1 := hn.cells 1; have r2 := hv.cells 0; have r3 := hv.cells 1; have z2 := hv.froz 0; have z3 := hv.froz 1; have HV2 := Lib.hid hv; have HB2 := Lib.hid (hbx.trans (hb.mono hbx.size)); clear hn hv hb)
      refine bodyPost_ret (results_cell_row_tmp rfl _ _ w.heap.size _ _ (0, 0) _ rfl ((HV2.out.set 0 _).set 1 _) Tryd.underlying25 rfl (by kernel_rfl)) rfl ?_
      exact ⟨by rw [HP.out]; rfl, below_set HB2.out (Nat.le_refl _) _ _⟩
    · have hx : Val.text ⟨3, q⟩ = l := by simpa using htx
      have HP : Hid (Res l ⟨3, q⟩ = (⟨3, q⟩, true)) := Lib.hid (if_neg (by rw [hx]; simpa using hne))
      rw [hx] at HT
      clear hne hx htx
      go_wp2_with (go_at_call 11; refine (HT.out _).mono ?_; rintro e w2 ⟨rfl, hb⟩; have hn := hv4.below hb hv4.lt; have hv := hv2.below hb hv2.lt; have r0 := hn.cells 0; have r1 := hn.cells 1; have r2 := hv.cells 0; have r3 := hv.cells 1; have z2 := hv.froz 0; have z3 := hv.froz 1; have HV2 := Lib.hid hv; have HB2 := Lib.hid (hbx.trans (hb.mono hbx.size)); clear hn hv hb)
      refine bodyPost_ret (results_cell_row_tmp rfl _ _ w.heap.size _ _ (0, 0) _ rfl ((HV2.out.set 0 _).set 1 _) Tryd.underlying25 rfl (by kernel_rfl)) rfl ?_
      exact ⟨by rw [HP.out]; rfl, below_set HB2.out (Nat.le_refl _) _ _⟩
  · have HP : Hid (Res l ⟨3, q⟩ = (⟨0, 0⟩, false)) := Lib.hid (if_pos (.inl (by simpa using he)))
    have r2 := hv2.cells 0
    have r3 := hv2.cells 1
    have z2 := hv2.froz 0
    have z3 := hv2.froz 1
    go_wp2
    refine bodyPost_ret (results_cell_row_tmp rfl _ _ w.heap.size _ _ (0, 0) _ rfl ((hv2.set 0 _).set 1 _) Tryd.underlying25 rfl (by kernel_rfl)) rfl ?_
    exact ⟨by rw [HP.out]; rfl, below_set hbx (Nat.le_refl _) _ _⟩

set_option maxHeartbeats 16000000 in
set_option maxRecDepth 100000 in
theorem rparse_5 (l : List UInt8) (hl : l.length ≤ 1000000) (w : World)  (k0 : Val.begins l [105, 51, 50, 32] = false) (k1 : Val.begins l [105, 54, 52, 32] = false) (k2 : (l == [114, 101, 102, 46, 110, 117, 108, 108, 32, 102, 117, 110, 99]) = false) (k3 : (l == [114, 101, 102, 46, 110, 117, 108, 108, 32, 101, 120, 116, 101, 114, 110]) = false) (k4 : Val.begins l [114, 101, 102, 46, 102, 117, 110, 99, 32] = false) (k5 : Val.begins l [114, 101, 102, 46, 101, 120, 116, 101, 114, 110, 32] = true) : Calls Tryd.prog 16 #[.string ⟨l.toArray⟩] w fun e w' => e = .returned (.tuple #[vv (Res l ⟨4, (Val.dg 0 l + 1) % 18446744073709551616⟩).1, .bool (Res l ⟨4, (Val.dg 0 l + 1) % 18446744073709551616⟩).2]) ∧ Below w.heap.size w w' := by
  have hb0 := fun W => begins_any l [105, 51, 50, 32] hl (by decide) W
  simp only [k0] at hb0
  have HB0 := Lib.hid hb0
  clear hb0
  have hb1 := fun W => begins_any l [105, 54, 52, 32] hl (by decide) W
  simp only [k1] at hb1
  have HB1 := Lib.hid hb1
  clear hb1
  have hb4 := fun W => begins_any l [114, 101, 102, 46, 102, 117, 110, 99, 32] hl (by decide) W
  simp only [k4] at hb4
  have HB4 := Lib.hid hb4
  clear hb4
  have hb5 := fun W => begins_any l [114, 101, 102, 46, 101, 120, 116, 101, 114, 110, 32] hl (by decide) W
  simp only [k5] at hb5
  have HB5 := Lib.hid hb5
  clear hb5
  have hlt := Val.dg_lt l 0 (by omega)
  have hd := fun W => digits_any l W hl
  obtain ⟨g, hg⟩ : ∃ g, Val.dg 0 l = g := ⟨_, rfl⟩
  rw [hg] at hlt ⊢
  simp only [hg] at hd
  obtain ⟨q, hq⟩ : ∃ q, (g + 1) % 18446744073709551616 = q := ⟨_, rfl⟩
  rw [hq]
  have u0 : IntKind.u64.wrap ((g : Int) + 1) = (q : Int) := by rw [IntKind.wrap_u64]; omega
  have HT := Lib.hid (fun W => rtext_any ⟨4, q⟩ (by dsimp only; omega) W)
  have HD := Lib.hid hd
  have hsz : (ByteArray.mk l.toArray).size = l.length := by simp [ByteArray.size]
  clear hd hg hq
  go_enter Tryd.func16, Tryd.ntmps16
  go_upto_region 7 with (go_at_call 34; refine (HB0.out _).mono ?_; rintro e w1 ⟨rfl, rfl⟩)
  go_upto_region 16 with (go_at_call 34; refine (HB1.out _).mono ?_; rintro e w1 ⟨rfl, rfl⟩)
  go_upto_region 18 with (go_at_call 34; refine (HB4.out _).mono ?_; rintro e w1 ⟨rfl, rfl⟩)
  go_upto_region 20 with (first
    | (go_at_call 34; refine (HB5.out _).mono ?_; rintro e w1 ⟨rfl, rfl⟩)
    | (go_at_call 35; refine (HD.out _).mono ?_; rintro e w1 ⟨rfl, rfl⟩))
  have HA := after_set w 4 q
  refine at_code (F := AfterGuess w ⟨4, q⟩) HA ?_
  rintro wx ⟨hv2, hv4, hbx⟩
  have y0 := hv4.cells 0
  have y1 := hv4.cells 1
  rcases he : (l == []) with _ | _
  · have hne : l ≠ [] := by simpa using he
    rcases htx : (Val.text ⟨4, q⟩ == l) with _ | _
    · have HP : Hid (Res l ⟨4, q⟩ = (⟨0, 0⟩, false)) := Lib.hid (if_pos (.inr (by simpa using htx)))
      obtain ⟨x, hx⟩ : ∃ x, Val.text ⟨4, q⟩ = x := ⟨_, rfl⟩
      rw [hx] at HT htx
      clear hne hx
      go_wp2_with (go_at_call 11; refine (HT.out _).mono ?_; rintro e w2 ⟨rfl, hb⟩; have hn := hv4.below hb hv4.lt; have hv := hv2.below hb hv2.lt; have r0 := hn.cells 0; have r1 := hn.cells 1; have r2 := hv.cells 0; have r3 := hv.cells 1; have z2 := hv.froz 0; have z3 := hv.froz 1; have HV2 := Lib.hid hv; have HB2 := Lib.hid (hbx.trans (hb.mono hbx.size)); clear hn hv hb)
      refine bodyPost_ret (results_cell_row_tmp rfl _ _ w.heap.size _ _ (0, 0) _ rfl ((HV2.out.set 0 _).set 1 _) Tryd.underlying25 rfl (by kernel_rfl)) rfl ?_
      exact ⟨by rw [HP.out]; rfl, below_set HB2.out (Nat.le_refl _) _ _⟩
    · have hx : Val.text ⟨4, q⟩ = l := by simpa using htx
      have HP : Hid (Res l ⟨4, q⟩ = (⟨4, q⟩, true)) := Lib.hid (if_neg (by rw [hx]; simpa using hne))
      rw [hx] at HT
      clear hne hx htx
      go_wp2_with (go_at_call 11; refine (HT.out _).mono ?_; rintro e w2 ⟨rfl, hb⟩; have hn := hv4.below hb hv4.lt; have hv := hv2.below hb hv2.lt; have r0 := hn.cells 0; have r1 := hn.cells 1; have r2 := hv.cells 0; have r3 := hv.cells 1; have z2 := hv.froz 0; have z3 := hv.froz 1; have HV2 := Lib.hid hv; have HB2 := Lib.hid (hbx.trans (hb.mono hbx.size)); clear hn hv hb)
      refine bodyPost_ret (results_cell_row_tmp rfl _ _ w.heap.size _ _ (0, 0) _ rfl ((HV2.out.set 0 _).set 1 _) Tryd.underlying25 rfl (by kernel_rfl)) rfl ?_
      exact ⟨by rw [HP.out]; rfl, below_set HB2.out (Nat.le_refl _) _ _⟩
  · have HP : Hid (Res l ⟨4, q⟩ = (⟨0, 0⟩, false)) := Lib.hid (if_pos (.inl (by simpa using he)))
    have r2 := hv2.cells 0
    have r3 := hv2.cells 1
    have z2 := hv2.froz 0
    have z3 := hv2.froz 1
    go_wp2
    refine bodyPost_ret (results_cell_row_tmp rfl _ _ w.heap.size _ _ (0, 0) _ rfl ((hv2.set 0 _).set 1 _) Tryd.underlying25 rfl (by kernel_rfl)) rfl ?_
    exact ⟨by rw [HP.out]; rfl, below_set hbx (Nat.le_refl _) _ _⟩

set_option maxHeartbeats 16000000 in
set_option maxRecDepth 100000 in
theorem rparse_6 (l : List UInt8) (hl : l.length ≤ 1000000) (w : World)  (k0 : Val.begins l [105, 51, 50, 32] = false) (k1 : Val.begins l [105, 54, 52, 32] = false) (k2 : (l == [114, 101, 102, 46, 110, 117, 108, 108, 32, 102, 117, 110, 99]) = false) (k3 : (l == [114, 101, 102, 46, 110, 117, 108, 108, 32, 101, 120, 116, 101, 114, 110]) = false) (k4 : Val.begins l [114, 101, 102, 46, 102, 117, 110, 99, 32] = false) (k5 : Val.begins l [114, 101, 102, 46, 101, 120, 116, 101, 114, 110, 32] = false) : Calls Tryd.prog 16 #[.string ⟨l.toArray⟩] w fun e w' => e = .returned (.tuple #[vv (Res l ⟨0, 0⟩).1, .bool (Res l ⟨0, 0⟩).2]) ∧ Below w.heap.size w w' := by
  have hb0 := fun W => begins_any l [105, 51, 50, 32] hl (by decide) W
  simp only [k0] at hb0
  have HB0 := Lib.hid hb0
  clear hb0
  have hb1 := fun W => begins_any l [105, 54, 52, 32] hl (by decide) W
  simp only [k1] at hb1
  have HB1 := Lib.hid hb1
  clear hb1
  have hb4 := fun W => begins_any l [114, 101, 102, 46, 102, 117, 110, 99, 32] hl (by decide) W
  simp only [k4] at hb4
  have HB4 := Lib.hid hb4
  clear hb4
  have hb5 := fun W => begins_any l [114, 101, 102, 46, 101, 120, 116, 101, 114, 110, 32] hl (by decide) W
  simp only [k5] at hb5
  have HB5 := Lib.hid hb5
  clear hb5
  have HT := Lib.hid (fun W => rtext_any ⟨0, 0⟩ (by dsimp only; omega) W)
  have hsz : (ByteArray.mk l.toArray).size = l.length := by simp [ByteArray.size]
  go_enter Tryd.func16, Tryd.ntmps16
  go_upto_region 7 with (go_at_call 34; refine (HB0.out _).mono ?_; rintro e w1 ⟨rfl, rfl⟩)
  go_upto_region 16 with (go_at_call 34; refine (HB1.out _).mono ?_; rintro e w1 ⟨rfl, rfl⟩)
  go_upto_region 18 with (go_at_call 34; refine (HB4.out _).mono ?_; rintro e w1 ⟨rfl, rfl⟩)
  go_upto_region 20 with (first
    | (go_at_call 34; refine (HB5.out _).mono ?_; rintro e w1 ⟨rfl, rfl⟩))
  have HA := after_set w 0 0
  refine at_code (F := AfterGuess w ⟨0, 0⟩) HA ?_
  rintro wx ⟨hv2, hv4, hbx⟩
  have y0 := hv4.cells 0
  have y1 := hv4.cells 1
  rcases he : (l == []) with _ | _
  · have hne : l ≠ [] := by simpa using he
    rcases htx : (Val.text ⟨0, 0⟩ == l) with _ | _
    · have HP : Hid (Res l ⟨0, 0⟩ = (⟨0, 0⟩, false)) := Lib.hid (if_pos (.inr (by simpa using htx)))
      obtain ⟨x, hx⟩ : ∃ x, Val.text ⟨0, 0⟩ = x := ⟨_, rfl⟩
      rw [hx] at HT htx
      clear hne hx
      go_wp2_with (go_at_call 11; refine (HT.out _).mono ?_; rintro e w2 ⟨rfl, hb⟩; have hn := hv4.below hb hv4.lt; have hv := hv2.below hb hv2.lt; have r0 := hn.cells 0; have r1 := hn.cells 1; have r2 := hv.cells 0; have r3 := hv.cells 1; have z2 := hv.froz 0; have z3 := hv.froz 1; have HV2 := Lib.hid hv; have HB2 := Lib.hid (hbx.trans (hb.mono hbx.size)); clear hn hv hb)
      refine bodyPost_ret (results_cell_row_tmp rfl _ _ w.heap.size _ _ (0, 0) _ rfl ((HV2.out.set 0 _).set 1 _) Tryd.underlying25 rfl (by kernel_rfl)) rfl ?_
      exact ⟨by rw [HP.out]; rfl, below_set HB2.out (Nat.le_refl _) _ _⟩
    · have hx : Val.text ⟨0, 0⟩ = l := by simpa using htx
      have HP : Hid (Res l ⟨0, 0⟩ = (⟨0, 0⟩, true)) := Lib.hid (if_neg (by rw [hx]; simpa using hne))
      rw [hx] at HT
      clear hne hx htx
      go_wp2_with (go_at_call 11; refine (HT.out _).mono ?_; rintro e w2 ⟨rfl, hb⟩; have hn := hv4.below hb hv4.lt; have hv := hv2.below hb hv2.lt; have r0 := hn.cells 0; have r1 := hn.cells 1; have r2 := hv.cells 0; have r3 := hv.cells 1; have z2 := hv.froz 0; have z3 := hv.froz 1; have HV2 := Lib.hid hv; have HB2 := Lib.hid (hbx.trans (hb.mono hbx.size)); clear hn hv hb)
      refine bodyPost_ret (results_cell_row_tmp rfl _ _ w.heap.size _ _ (0, 0) _ rfl ((HV2.out.set 0 _).set 1 _) Tryd.underlying25 rfl (by kernel_rfl)) rfl ?_
      exact ⟨by rw [HP.out]; rfl, below_set HB2.out (Nat.le_refl _) _ _⟩
  · have HP : Hid (Res l ⟨0, 0⟩ = (⟨0, 0⟩, false)) := Lib.hid (if_pos (.inl (by simpa using he)))
    have r2 := hv2.cells 0
    have r3 := hv2.cells 1
    have z2 := hv2.froz 0
    have z3 := hv2.froz 1
    go_wp2
    refine bodyPost_ret (results_cell_row_tmp rfl _ _ w.heap.size _ _ (0, 0) _ rfl ((hv2.set 0 _).set 1 _) Tryd.underlying25 rfl (by kernel_rfl)) rfl ?_
    exact ⟨by rw [HP.out]; rfl, below_set hbx (Nat.le_refl _) _ _⟩

theorem rparse_any (l : List UInt8) (hl : l.length ≤ 1000000) (w : World) : Calls Tryd.prog 16 #[.string ⟨l.toArray⟩] w fun e w' => e = .returned (.tuple #[vv (Val.parse l).1, .bool (Val.parse l).2]) ∧ Below w.heap.size w w' := by
  have hp : Val.parse l = Res l (Val.rg l) := (Val.parse_ref l).symm
  rw [hp, rg_eq]
  rcases k0 : Val.begins l [105, 51, 50, 32] with _ | _
  case true =>
    rw [if_pos rfl]
    rcases hm : Val.minus l with _ | _
    · exact hm ▸ rparse_0p l hl w k0 hm
    · exact hm ▸ rparse_0m l hl w k0 hm
  rw [if_neg (by decide)]
  rcases k1 : Val.begins l [105, 54, 52, 32] with _ | _
  case true =>
    rw [if_pos rfl]
    rcases hm : Val.minus l with _ | _
    · exact hm ▸ rparse_1p l hl w k0 k1 hm
    · exact hm ▸ rparse_1m l hl w k0 k1 hm
  rw [if_neg (by decide)]
  by_cases e2 : l = [114, 101, 102, 46, 110, 117, 108, 108, 32, 102, 117, 110, 99]
  · rw [if_pos e2]
    exact rparse_2 l hl w k0 k1 (by rw [e2]; rfl)
  rw [if_neg e2]
  have k2 : (l == [114, 101, 102, 46, 110, 117, 108, 108, 32, 102, 117, 110, 99]) = false := by simpa using e2
  by_cases e3 : l = [114, 101, 102, 46, 110, 117, 108, 108, 32, 101, 120, 116, 101, 114, 110]
  · rw [if_pos e3]
    exact rparse_3 l hl w k0 k1 k2 (by rw [e3]; rfl)
  rw [if_neg e3]
  have k3 : (l == [114, 101, 102, 46, 110, 117, 108, 108, 32, 101, 120, 116, 101, 114, 110]) = false := by simpa using e3
  rcases k4 : Val.begins l [114, 101, 102, 46, 102, 117, 110, 99, 32] with _ | _
  case true =>
    rw [if_pos rfl]
    exact rparse_4 l hl w k0 k1 k2 k3 k4
  rw [if_neg (by decide)]
  rcases k5 : Val.begins l [114, 101, 102, 46, 101, 120, 116, 101, 114, 110, 32] with _ | _
  case true =>
    rw [if_pos rfl]
    exact rparse_5 l hl w k0 k1 k2 k3 k4 k5
  rw [if_neg (by decide)]
  exact rparse_6 l hl w k0 k1 k2 k3 k4 k5
end Go.Proofs.YtilflcbmejhepaaDoor
