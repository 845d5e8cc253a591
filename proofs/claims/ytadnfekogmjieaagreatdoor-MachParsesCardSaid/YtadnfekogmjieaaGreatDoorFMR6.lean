/-
  Layer 51, the reference: head, Print. (Printed by gen_mr6.py.)
-/
import Derived.Test.YtadnfekogmjieaaGreatDoorFMR5
import Derived.Test.YtadnfekogmjieaaGreatDoorFMC7
set_option linter.unusedVariables false
set_option linter.unusedSimpArgs false
namespace Go.Proofs.YtadnfekogmjieaaGreatDoor
open Go.RowKit
open Mc (Pl Mi Mf)
theorem text_len {ps rs : List Int} (h1 : ps.length ≤ 1000) (h2 : rs.length ≤ 1000) : (Ty.text ps rs).length ≤ 300000 := by
  have l1 := list_len ps (by omega)
  have l2 := list_len rs (by omega)
  unfold Ty.text; simp only [List.length_append, List.length_cons, List.length_nil]; omega
set_option maxHeartbeats 8000000 in
set_option maxRecDepth 100000 in
/-- head. -/
theorem rhead_any (f : Mf) (hp : f.ps.length ≤ 1000) (hr : f.rs.length ≤ 1000) (hs : Mc.index f.slots = true) (S : Nat → Prop) (P : Option Addr) (c1 : Nat) (R : Option Addr) (c2 : Nat) (C : Option Addr) (c3 : Nat) (w : World) (h : MfAt S w f P R C) :
    Calls Tryz.prog 36 #[.agg (mfV f P c1 R c2 C c3)] w fun e w' => e = .returned (.string ⟨(Mc.rhead f).toArray⟩) ∧ Below w.heap.size w w' := by
  obtain ⟨n, en, hn, wn, dn⟩ := wrap_idx hs
  have wnn : IntKind.u64.wrap (n : Int) = (n : Int) := by rw [← en]; exact wn.trans en.symm
  have HT := Lib.hid (fun W (hb : Below w.heap.size w W) => refText_any P R c1 c2 f.ps f.rs W (RdZ.on h.ps hb).rds.rdI (RdZ.on h.rs hb).rds.rdI (by omega) (by omega))
  have HD := Lib.hid (fun W => dec_bel n W (by omega))
  have htl := text_len hp hr
  have hsl : (Lib.decDigits n).length ≤ 10 := dec_len 9 n (by omega)
  obtain ⟨TX, htx⟩ : ∃ q, Ty.text f.ps f.rs = q := ⟨_, rfl⟩
  obtain ⟨sd, hsd⟩ : ∃ q, Lib.decDigits n = q := ⟨_, rfl⟩
  have HE : Hid (ByteArray.mk #[102, 117, 110, 99, 32] ++ ByteArray.mk TX.toArray ++ ByteArray.mk #[32, 115, 108, 111, 116, 115, 32] ++ ByteArray.mk sd.toArray = ByteArray.mk (Mc.rhead f).toArray) := Lib.hid (by
    unfold Mc.rhead Mc.lFunc Mc.lSlots
    rw [dn, htx, hsd]
    apply ByteArray.ext; simp)
  rw [htx] at HT htl
  rw [hsd] at HD hsl
  have x3 : ¬ 9223372036854775807 < 5 + TX.length := by omega
  have x4 : ¬ 9223372036854775807 < 5 + TX.length + 7 := by omega
  have x5 : ¬ 9223372036854775807 < 5 + TX.length + 7 + sd.length := by omega
  have HB := Lib.hid ((Below.refl w.heap.size w).alloc (Nat.le_refl _) (.cells (mfV f P c1 R c2 C c3) 39))
  have HV := Lib.hid (Var.new w (mfV f P c1 R c2 C c3) 39)
  have HEN := Lib.hid en
  clear en wn dn htx hsd hs h
  go_enter Tryz.func36, Tryz.ntmps36
  go_upto_region 1 with fail
  refine at_code (F := fun W => Hid (Below w.heap.size w W) ∧ Hid (Var W w.heap.size (mfV f P c1 R c2 C c3) 39)) ⟨HB, HV⟩ ?_
  clear HB HV
  rintro W0 ⟨B0, V0⟩
  obtain ⟨y0, y1, y2, y3⟩ := mfV_cells V0.out
  rw [HEN.out] at y2
  replace B0 := Lib.hid (B0.out.trans ((show Below W0.heap.size W0 (World.drew W0) from below_drewN W0 1).mono B0.out.size))
  replace V0 := Lib.hid (var_keep V0.out (show Below W0.heap.size W0 (World.drew W0) from below_drewN W0 1))
  go_region_held3 (fun w' => w'.cell? ⟨w.heap.size, 0, none⟩ = some (.slice P f.ps.length c1) ∧ w'.cell? ⟨w.heap.size, 1, none⟩ = some (.slice R f.rs.length c2) ∧ w'.cell? ⟨w.heap.size, 2, none⟩ = some (.int .i64 (n : Int)))
    (go_keep)
    (first
      | (go_at_call 74; (with_reducible refine (HT.out _ B0.out).mono ?_); rintro e w2 ⟨rfl, hbb⟩; replace B0 := Lib.hid (B0.out.trans (hbb.mono B0.out.size)); replace V0 := Lib.hid (var_keep V0.out hbb); clear hbb; clear y0 y1 y2 y3; obtain ⟨y0, y1, y2, y3⟩ := mfV_cells V0.out; rw [HEN.out] at y2)
      | (go_at_call 75; (with_reducible refine (HD.out _).mono ?_); rintro e w2 ⟨rfl, hbb⟩; replace B0 := Lib.hid (B0.out.trans (hbb.mono B0.out.size)); replace V0 := Lib.hid (var_keep V0.out hbb); clear hbb; clear y0 y1 y2 y3; obtain ⟨y0, y1, y2, y3⟩ := mfV_cells V0.out; rw [HEN.out] at y2))
  all_goals
    go_wp2_with fail
    go_ret
    exact ⟨by rw [HE.out]; rfl, B0.out⟩
end Go.Proofs.YtadnfekogmjieaaGreatDoor
