/-
  Layer 51, the reference: head, Print. (Printed by gen_mr6.py.)
-/
import Derived.Test.YtadnfekogmjieaaGreatDoorCMR5
import Derived.Test.YtadnfekogmjieaaGreatDoorCMC7
set_option linter.unusedVariables false
set_option linter.unusedSimpArgs false
namespace Go.Proofs.YtadnfekogmjieaaGreatDoor
open Go.RowKit
open Mc (Pl Mi Mf)
theorem text_len {ps rs : List Int} (h1 : ps.length ≤ 1000) (h2 : rs.length ≤ 1000) : (Ty.text ps rs).length ≤ 300000 := by
  have l1 := list_len ps (by omega)
  have l2 := list_len rs (by omega)
  unfold Ty.text; simp only [List.length_append, List.length_cons, List.length_nil]; omega
set_option maxHeartbeats 8000000 in
set_option maxRecDepth 100000 in
/-- head. -/
theorem rhead_any (f : Mf) (hp : f.ps.length ≤ 1000) (hr : f.rs.length ≤ 1000) (hs : Mc.index f.slots = true) (S : Nat → Prop) (P : Option Addr) (c1 : Nat) (R : Option Addr) (c2 : Nat) (C : Option Addr) (c3 : Nat) (w : World) (h : MfAt S w f P R C) :
    Calls Tryz.prog 36 #[.agg (mfV f P c1 R c2 C c3)] w fun e w' => e = .returned (.string ⟨(Mc.rhead f).toArray⟩) ∧ Below w.heap.size w w' := by
  obtain ⟨n, en, hn, wn, dn⟩ := wrap_idx hs
  have wnn : IntKind.u64.wrap (n : Int) = (n : Int) := by rw [← en]; exact wn.trans en.symm
  have HT := Lib.hid (fun W (hb : Below w.heap.size w W) => refText_any P R c1 c2 f.ps f.rs W (RdZ.on h.ps hb).rds.rdI (RdZ.on h.rs hb).rds.rdI (by omega) (by omega))
  have HD := Lib.hid (fun W => dec_bel n W (by omega))
  have htl := text_len hp hr
  have hsl : (Lib.decDigits n).length ≤ 10 := dec_len 9 n (by omega)
  obtain ⟨TX, htx⟩ : ∃ q, Ty.text f.ps f.rs = q := ⟨_, rfl⟩
  obtain ⟨sd, hsd⟩ : ∃ q, Lib.decDigits n = q := ⟨_, rfl⟩
  have HE : Hid (ByteArray.mk #[102, 117, 110, 99, 32] ++ ByteArray.mk TX.toArray ++ ByteArray.mk #[32, 115, 108, 111, 116, 115, 32] ++ ByteArray.mk sd.toArray = ByteArray.mk (Mc.rhead f).toArray) := Lib.hid (by
    unfold Mc.rhead Mc.lFunc Mc.lSlots
    rw [dn, htx, hsd]
    apply ByteArray.ext; simp)
  rw [htx] at HT htl
  rw [hsd] at HD hsl
  have x3 : ¬ 9223372036854775807 < 5 + TX.length := by omega
  have x4 : ¬ 9223372036854775807 < 5 + TX.length + 7 := by omega
  have x5 : ¬ 9223372036854775807 < 5 + TX.length + 7 + sd.length := by omega
  have HB := Lib.hid ((Below.refl w.heap.size w).alloc (Nat.le_refl _) (.cells (mfV f P c1 R c2 C c3) 39))
  have HV := Lib.hid (Var.new w (mfV f P c1 R c2 C c3) 39)
  have HEN := Lib.hid en
  clear en wn dn htx hsd hs h
  go_enter Tryz.func36, Tryz.ntmps36
  go_upto_region 1 with fail
  refine at_code (F := fun W => Hid (Below w.heap.size w W) ∧ Hid (Var W w.heap.size (mfV f P c1 R c2 C c3) 39)) ⟨HB, HV⟩ ?_
  clear HB HV
  rintro W0 ⟨B0, V0⟩
  obtain ⟨y0, y1, y2, y3⟩ := mfV_cells V0.out
  rw [HEN.out] at y2
  replace B0 := Lib.hid (B0.out.trans ((show Below W0.heap.size W0 (World.drew W0) from below_drewN W0 1).mono B0.out.size))
  replace V0 := Lib.hid (var_keep V0.out (show Below W0.heap.size W0 (World.drew W0) from below_drewN W0 1))
  go_region_held3 (fun w' => w'.cell? ⟨w.heap.size, 0, none⟩ = some (.slice P f.ps.length c1) ∧ w'.cell? ⟨w.heap.size, 1, none⟩ = some (.slice R f.rs.length c2) ∧ w'.cell? ⟨w.heap.size, 2, none⟩ = some (.int .i64 (n : Int)))
    (go_keep)
    (first
      | (go_at_call 74; (with_reducible refine (HT.out _ B0.out).mono ?_); rintro e w2 ⟨rfl, hbb⟩; replace B0 := Lib.hid (B0.out.trans (hbb.mono B0.out.size)); replace V0 := Lib.hid (var_keep V0.out hbb); clear hbb; clear y0 y1 y2 y3; obtain ⟨y0, y1, y2, y3⟩ := mfV_cells V0.out; rw [HEN.out] at y2)
      | (go_at_call 75; (with_reducible refine (HD.out _).mono ?_); rintro e w2 ⟨rfl, hbb⟩; replace B0 := Lib.hid (B0.out.trans (hbb.mono B0.out.size)); replace V0 := Lib.hid (var_keep V0.out hbb); clear hbb; clear y0 y1 y2 y3; obtain ⟨y0, y1, y2, y3⟩ := mfV_cells V0.out; rw [HEN.out] at y2))
  all_goals
    go_wp2_with fail
    go_ret
    exact ⟨by rw [HE.out]; rfl, B0.out⟩
set_option maxHeartbeats 16000000 in
set_option maxRecDepth 100000 in
/-- Print. -/
theorem rprint_any (f : Mf) (hf : f.Ok) (S : Nat → Prop) (P : Option Addr) (c1 : Nat) (R : Option Addr) (c2 : Nat) (C : Option Addr) (c3 : Nat) (w : World) (h : MfAt S w f P R C) :
    Calls Tryz.prog 15 #[.agg (mfV f P c1 R c2 C c3)] w fun e w' => e = .returned (.string ⟨(Mc.print f).toArray⟩) ∧ Below w.heap.size w w' := by
  rw [← Mc.rprint_same]
  obtain ⟨BODY, hB⟩ : ∃ y, Mc.rprint f = y := ⟨_, rfl⟩
  rw [hB]
  unfold Mc.rprint at hB
  have HB := Lib.hid ((Below.refl w.heap.size w).alloc (Nat.le_refl _) (.cells (mfV f P c1 R c2 C c3) 39))
  have HV := Lib.hid (Var.new w (mfV f P c1 R c2 C c3) 39)
  have HR := Lib.hid (fun W (hb : Below w.heap.size w W) => refRight_any P R c1 c2 f.ps f.rs W (RdZ.on h.ps hb).rds.rdI (RdZ.on h.rs hb).rds.rdI hf.ps hf.rs)
  have HC := Lib.hid h.code
  have HH := Lib.hid (fun (hs : Mc.index f.slots = true) W (hb : Below w.heap.size w W) => rhead_any f hf.ps hf.rs hs S P c1 R c2 C c3 W (h.on hb))
  have HX := Lib.hid hf.code.2
  have hcl := hf.code.1
  have hhl : (Mc.rhead f).length ≤ 300100 := by
    have l1 := text_len hf.ps hf.rs
    have l2 := Mc.itoa_len hf.slots
    unfold Mc.rhead Mc.lFunc Mc.lSlots
    simp only [List.length_append, List.length_cons, List.length_nil]; omega
  obtain ⟨rt, hrt⟩ : ∃ q, (Ty.right f.ps && Ty.right f.rs) = q := ⟨_, rfl⟩
  rw [hrt] at HR hB
  clear hrt hf h
  unfold mfV at HH
  rcases rt with _ | _
  · have HZ := Lib.hid hB
    clear hB HH HX HC hhl
    go_enter Tryz.func15, Tryz.ntmps15
    go_upto_region 1 with fail
    refine at_code (F := fun W => Hid (Below w.heap.size w W) ∧ Hid (Var W w.heap.size (mfV f P c1 R c2 C c3) 39)) ⟨HB, HV⟩ ?_
    clear HB HV
    rintro W0 ⟨B0, V0⟩
    obtain ⟨y0, y1, y2, y3⟩ := mfV_cells V0.out
    go_wp2_with (go_at_call 29; (with_reducible refine (HR.out _ B0.out).mono ?_); rintro e w2 ⟨rfl, hbb⟩; replace B0 := Lib.hid (B0.out.trans (hbb.mono B0.out.size)); clear hbb)
    go_ret
    exact ⟨by rw [← HZ.out]; rfl, B0.out⟩
  rcases hix : Mc.index f.slots with _ | _
  · rw [hix] at hB
    have HZ := Lib.hid hB
    clear hB HH HX HC hhl
    go_enter Tryz.func15, Tryz.ntmps15
    go_upto_region 1 with fail
    refine at_code (F := fun W => Hid (Below w.heap.size w W) ∧ Hid (Var W w.heap.size (mfV f P c1 R c2 C c3) 39)) ⟨HB, HV⟩ ?_
    clear HB HV
    rintro W0 ⟨B0, V0⟩
    obtain ⟨y0, y1, y2, y3⟩ := mfV_cells V0.out
    go_wp2_with (first
      | (go_at_call 29; (with_reducible refine (HR.out _ B0.out).mono ?_); rintro e w2 ⟨rfl, hbb⟩; replace B0 := Lib.hid (B0.out.trans (hbb.mono B0.out.size)); replace V0 := Lib.hid (var_keep V0.out hbb); clear hbb; clear y0 y1 y2 y3; obtain ⟨y0, y1, y2, y3⟩ := mfV_cells V0.out)
      | (go_at_call 35; with_reducible refine (rnatural_any _ _).mono ?_; rintro e w1 ⟨rfl, rfl⟩))
    go_ret
    exact ⟨by rw [← HZ.out]; rfl, B0.out⟩
  have HHd := Lib.hid (HH.out hix)
  rw [hix] at hB
  obtain ⟨Hd, hHd⟩ : ∃ q, Mc.rhead f = q := ⟨_, rfl⟩
  have hB2 : Mc.rprintGo (Hd ++ [10]) f.code = BODY := by rw [← hHd]; exact hB
  rw [hHd] at HHd hhl
  have hcat : (ByteArray.mk Hd.toArray ++ ByteArray.mk #[10]) = ByteArray.mk (Hd ++ [10]).toArray := cat_mk Hd [10]
  have x3 : ¬ 9223372036854775807 < Hd.length + 1 := by omega
  obtain ⟨T0, hT0⟩ : ∃ q, Hd ++ [10] = q := ⟨_, rfl⟩
  have hTl : T0.length ≤ 300200 := by rw [← hT0]; simp; omega
  rw [hT0] at hcat hB2
  have HBO : Hid (Mc.rprintGo T0 (f.code.drop 0) = BODY) := Lib.hid hB2
  have HIX := Lib.hid hix
  clear hB hB2 HH hHd hT0 hhl
  go_enter Tryz.func15, Tryz.ntmps15
  go_upto_region 1 with fail
  refine at_code (F := fun W => Hid (Below w.heap.size w W) ∧ Hid (Var W w.heap.size (mfV f P c1 R c2 C c3) 39)) ⟨HB, HV⟩ ?_
  clear HB HV
  rintro W0 ⟨B0, V0⟩
  obtain ⟨y0, y1, y2, y3⟩ := mfV_cells V0.out
  go_upto_region 4 with (first
    | (go_at_call 29; (with_reducible refine (HR.out _ B0.out).mono ?_); rintro e w2 ⟨rfl, hbb⟩; replace B0 := Lib.hid (B0.out.trans (hbb.mono B0.out.size)); replace V0 := Lib.hid (var_keep V0.out hbb); clear hbb; clear y0 y1 y2 y3; obtain ⟨y0, y1, y2, y3⟩ := mfV_cells V0.out)
    | (go_at_call 35; with_reducible refine (rnatural_any _ _).mono ?_; rintro e w1 ⟨rfl, rfl⟩)
    | (go_at_call 36; (with_reducible refine (HHd.out _ B0.out).mono ?_); rintro e w2 ⟨rfl, hbb⟩; replace B0 := Lib.hid (B0.out.trans (hbb.mono B0.out.size)); replace V0 := Lib.hid (var_keep V0.out hbb); clear hbb; clear y0 y1 y2 y3; obtain ⟨y0, y1, y2, y3⟩ := mfV_cells V0.out))
  clear HR HHd
  go_wp2_with fail
  go_loopw [3, 4] (fun sv iv wr => ∃ (i : Nat) (U : List UInt8), iv = .int .i64 (i : Int) ∧ i ≤ f.code.length ∧ sv = .string ⟨U.toArray⟩ ∧ U.length ≤ 300200 + i * 10000000 ∧ Hid (Mc.rprintGo U (f.code.drop i) = BODY) ∧ Hid (Below w.heap.size w wr) ∧ Hid (Var wr w.heap.size (mfV f P c1 R c2 C c3) 39)) (fun _ iv _ => f.code.length - (intOf iv).toNat)
  case atStart => exact ⟨0, T0, rfl, by omega, (by first | rfl | rw [hcat]), by omega, HBO, B0, V0⟩
  case round =>
    clear B0 V0 HBO hcat x3 hTl y0 y1 y2 y3
    obtain ⟨i, U, rfl, hi, rfl, hUl, HT, B0, V0⟩ := hrel
    obtain ⟨y0, y1, y2, y3⟩ := mfV_cells V0.out
    by_cases hia : i < f.code.length
    · have x0 : (i : Int) < (f.code.length : Int) := by omega
      have x1 : (0 : Int) ≤ (i : Int) := by omega
      obtain ⟨g, o, rfl, -, hgl, hat⟩ := (RdM.on HC.out B0.out).get hia
      obtain ⟨D, d1, E, d2, Tt, d3, ⟨f0, f1, f2, f3, f4, f5, f6, f7, f8⟩, hrd⟩ := hat.cells
      have hT := HT.out
      have hok := HX.out _ (List.getElem_mem hia)
      rw [List.drop_eq_getElem_cons hia] at hT
      obtain ⟨x, hx⟩ : ∃ x, f.code[i] = x := ⟨_, rfl⟩
      simp only [hx] at f0 f1 f2 f3 f4 f5 f6 f7 f8 hrd hT hok
      have l1 := hok.d.1
      have l2 := hok.s.1
      have l3 := hok.tos.1
      have HTo := Lib.hid (fun W (hb : Below wr.heap.size wr W) => rtold_any x (by omega) (by omega) (by omega) S D d1 E d2 Tt d3 W (hrd.on hb))
      have HLi := Lib.hid (fun (ht : Mc.told x = true) W (hb : Below wr.heap.size wr W) => rline_any x ht hok.n l1 l2 l3 (by rw [Mc.rline_same ht]; have := Mc.line_len hok; omega) S D d1 E d2 Tt d3 W (hrd.on hb))
      have hll : Mc.told x = true → (Mc.rline x).length ≤ 9999998 := fun ht => by rw [Mc.rline_same ht]; exact Mc.line_len hok
      rw [Mc.rprintGo] at hT
      unfold miV at HTo HLi
      rcases htd : Mc.told x with _ | _
      · rw [htd] at HTo hT
        have HZ := Lib.hid hT
        clear hT HT hx hat hrd hok HLi hll htd HX
        go_wp2_with (go_at_call 37; (with_reducible refine (HTo.out _ (Below.refl _ _)).mono ?_); rintro e w2 ⟨rfl, hbb⟩; have B1 := B0.out.trans (hbb.mono B0.out.size))
        go_ret
        exact ⟨by rw [← HZ.out]; rfl, B1⟩
      · have HLt := Lib.hid (HLi.out htd)
        have hl2 := hll htd
        rw [htd] at HTo hT
        have hT' : Mc.rprintGo (U ++ (Mc.rline x ++ [10])) (f.code.drop (i + 1)) = BODY := hT
        obtain ⟨u, hu⟩ : ∃ u, Mc.rline x = u := ⟨_, rfl⟩
        rw [hu] at HLt hl2 hT'
        have x3 : ¬ 9223372036854775807 < U.length + u.length := by omega
        have x4 : ¬ 9223372036854775807 < U.length + u.length + 1 := by omega
        have HE := Lib.hid (cat3 U u [10])
        have HT2 : Hid (Mc.rprintGo (U ++ u ++ [10]) (f.code.drop (i + 1)) = BODY) := Lib.hid (by rw [← hT']; simp)
        clear hT hT' HT hx hat hok HLi hll htd hu
        have hbx := B0.out.size
        go_wp2_with (first
          | (go_at_call 37; (with_reducible refine (HTo.out _ (Below.refl _ _)).mono ?_); rintro e w2 ⟨rfl, hbb⟩; have B1 := Lib.hid (B0.out.trans (hbb.mono B0.out.size)); have V1 := Lib.hid (var_keep V0.out hbb); have HBB := Lib.hid hbb; clear y0 y1 y2 y3; obtain ⟨y0, y1, y2, y3⟩ := mfV_cells V1.out; have hkp := Below.keep hbb (fun _ => True); have f0 := hkp _ _ trivial f0; have f1 := hkp _ _ trivial f1; have f2 := hkp _ _ trivial f2; have f3 := hkp _ _ trivial f3; have f4 := hkp _ _ trivial f4; have f5 := hkp _ _ trivial f5; have f6 := hkp _ _ trivial f6; have f7 := hkp _ _ trivial f7; have f8 := hkp _ _ trivial f8; clear hbb hkp)
          | (go_at_call 38; (with_reducible refine (HLt.out _ HBB.out).mono ?_); rintro e w3 ⟨rfl, hbb⟩; have B2 := Lib.hid (B1.out.trans (hbb.mono B1.out.size)); have V2 := Lib.hid (var_keep V1.out hbb); clear hbb))
        go_roundw
        case rel => exact ⟨i + 1, U ++ u ++ [10], by go_num, by omega, congrArg Value.string HE.out, by simp only [List.length_append, List.length_cons, List.length_nil]; omega, HT2, B2, V2⟩
        case measure => simp [intOf] <;> omega
    · have hi2 : i = f.code.length := by omega
      have x0 : ¬ (i : Int) < (f.code.length : Int) := by omega
      have hT := HT.out
      rw [hi2, List.drop_length, Mc.rprintGo] at hT
      have HT2 := Lib.hid hT
      clear hT HT hi2
      go_wp2_with fail
      go_ret
      exact ⟨by rw [HT2.out]; rfl, B0.out⟩
end Go.Proofs.YtadnfekogmjieaaGreatDoor
