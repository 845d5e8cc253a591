/-
  Layer 51: mach's head. (Printed by gen_ms5.py.)
-/
import Derived.Test.YtadnfekogmjieaaGreatDoorGMS4
import Derived.Test.YtadnfekogmjieaaGreatDoorGTk
import Derived.Deep.RegionHeld3
set_option linter.unusedVariables false
set_option linter.unusedSimpArgs false
namespace Go.Proofs.YtadnfekogmjieaaGreatDoor
open Go.RowKit
open Mc (Pl Mi Mf)
theorem below_dr (W : World) : Below W.heap.size W (World.drew W) := ⟨rfl, rfl, rfl, Nat.le_refl _, fun _ _ => rfl⟩
set_option maxHeartbeats 8000000 in
set_option maxRecDepth 100000 in
theorem head_any (f : Mf) (hp : f.ps.length ≤ 1000) (hr : f.rs.length ≤ 1000) (hs : InR f.slots) (S0 : Nat → Prop) (P : Option Addr) (c1 : Nat) (R : Option Addr) (c2 : Nat) (C : Option Addr) (c3 : Nat) (w : World) (G : Glob w) (h1 : RdZ w S0 P f.ps) (h2 : RdZ w S0 R f.rs) :
    Calls Tryz.prog 31 #[.agg (mfV f P c1 R c2 C c3)] w fun e w' => e = .returned (.string ⟨(Mc.head f.ps f.rs f.slots).toArray⟩) ∧ Below w.heap.size w w' := by
  have hh : Mc.head f.ps f.rs f.slots = if (Ty.right f.ps && Ty.right f.rs) && Mc.index f.slots then [102, 117, 110, 99, 32] ++ (Ty.text f.ps f.rs ++ ([32, 115, 108, 111, 116, 115, 32] ++ Lib.itoa f.slots)) else [] := rfl
  have l1 := list_len f.ps (by omega)
  have l2 := list_len f.rs (by omega)
  have l3 := Mc.itoa_len hs
  have HRT := Lib.hid (fun W (hb : Below w.heap.size w W) => right_any P R c1 c2 f.ps f.rs W ((RdZ.on h1 hb).rds.rdI) ((RdZ.on h2 hb).rds.rdI) hp hr)
  have HTX := Lib.hid (fun W (hb : Below w.heap.size w W) => text_any P R c1 c2 f.ps f.rs W ((RdZ.on h1 hb).rds.rdI) ((RdZ.on h2 hb).rds.rdI) (by omega) (by omega))
  have HIX := Lib.hid (fun W => index_any f.slots W)
  have HIT := Lib.hid (fun W (h : Tab W) => itoa_any f.slots hs.1 hs.2 W h)
  obtain ⟨ok, hok⟩ : ∃ v, (Ty.right f.ps && Ty.right f.rs) = v := ⟨_, rfl⟩
  obtain ⟨ix, hix⟩ : ∃ v, Mc.index f.slots = v := ⟨_, rfl⟩
  obtain ⟨TX, hTX⟩ : ∃ v, Ty.text f.ps f.rs = v := ⟨_, rfl⟩
  obtain ⟨X, hX⟩ : ∃ v, Lib.itoa f.slots = v := ⟨_, rfl⟩
  have lT : TX.length ≤ 200010 := by rw [← hTX]; unfold Ty.text; simp only [List.length_append, List.length_cons, List.length_nil]; omega
  rw [hok] at HRT hh
  rw [hix] at HIX hh
  rw [hTX] at HTX hh
  rw [hX] at HIT hh l3
  obtain ⟨Z, hZ⟩ : ∃ v, Mc.head f.ps f.rs f.slots = v := ⟨_, rfl⟩
  rw [hZ] at hh ⊢
  clear hok hix hTX hX l1 l2 hp hr hs h1 h2 hZ
  obtain ⟨ps, rs, slots, code⟩ := f
  unfold mfV
  dsimp only at *
  have HG := Lib.hid G
  clear G
  have HB := Lib.hid ((Below.refl w.heap.size w).alloc (Nat.le_refl _) (.cells #[.slice P ps.length c1, .slice R rs.length c2, .int .i64 slots, .slice C code.length c3] 39))
  have HV := Lib.hid (Var.new w #[.slice P ps.length c1, .slice R rs.length c2, .int .i64 slots, .slice C code.length c3] 39)
  have hn1 : ¬ (9223372036854775807 < 5 + TX.length) := by omega
  obtain ⟨T1, hT1⟩ : ∃ v, ([102, 117, 110, 99, 32] : List UInt8) ++ TX = v := ⟨_, rfl⟩
  have hl1 : T1.length = 5 + TX.length := by rw [← hT1]; simp; omega
  have hn2 : ¬ (9223372036854775807 < T1.length + 7) := by omega
  obtain ⟨T2, hT2⟩ : ∃ v, T1 ++ ([32, 115, 108, 111, 116, 115, 32] : List UInt8) = v := ⟨_, rfl⟩
  have hl2 : T2.length = T1.length + 7 := by rw [← hT2]; simp
  have hn3 : ¬ (9223372036854775807 < T2.length + X.length) := by omega
  have hc1 : (ByteArray.mk #[102, 117, 110, 99, 32] ++ ByteArray.mk TX.toArray) = ByteArray.mk T1.toArray := by rw [← hT1]; exact cat_mk [102, 117, 110, 99, 32] TX
  have hc2 : (ByteArray.mk T1.toArray ++ ByteArray.mk #[32, 115, 108, 111, 116, 115, 32]) = ByteArray.mk T2.toArray := by rw [← hT2]; exact cat_mk T1 [32, 115, 108, 111, 116, 115, 32]
  have hc3 : (ByteArray.mk T2.toArray ++ ByteArray.mk X.toArray) = ByteArray.mk (T2 ++ X).toArray := cat_mk T2 X
  have hcat : [102, 117, 110, 99, 32] ++ (TX ++ ([32, 115, 108, 111, 116, 115, 32] ++ X)) = T2 ++ X := by rw [← hT2, ← hT1]; simp
  rw [hcat] at hh
  have HZ := Lib.hid hh
  have HL := Lib.hid (And.intro hn1 (And.intro hn2 (And.intro hn3 (And.intro hc1 (And.intro hc2 hc3)))))
  clear hh hcat hT1 hT2 hl1 hl2 lT l3 hn1 hn2 hn3 hc1 hc2 hc3
  rcases ok with _ | _
  · go_enter Tryz.func31, Tryz.ntmps31
    go_wp2_with (go_at_call 25; with_reducible refine (HRT.out _ HB.out).mono ?_; rintro e w1 ⟨rfl, hb⟩; have HB1 := Lib.hid (HB.out.trans (hb.mono HB.out.size)); clear hb)
    go_ret
    exact ⟨by rw [HZ.out]; rfl, HB1.out⟩
  rcases ix with _ | _
  · go_enter Tryz.func31, Tryz.ntmps31
    go_wp2_with (first | (go_at_call 25; with_reducible refine (HRT.out _ HB.out).mono ?_; rintro e w1 ⟨rfl, hb⟩; have HB1 := Lib.hid (HB.out.trans (hb.mono HB.out.size)); have V1 := HV.out.below hb (by simp); obtain ⟨⟨y0, y1, y2, y3⟩, -⟩ := cells4' V1; clear hb) | (go_at_call 65; with_reducible refine (HIX.out _).mono ?_; rintro e w1 ⟨rfl, rfl⟩))
    go_ret
    exact ⟨by rw [HZ.out]; rfl, HB1.out⟩
  go_enter Tryz.func31, Tryz.ntmps31
  go_upto_region 3 with (first | (go_at_call 25; with_reducible refine (HRT.out _ HB.out).mono ?_; rintro e w1 ⟨rfl, hb⟩; have HB1 := Lib.hid (HB.out.trans (hb.mono HB.out.size)); have V1 := HV.out.below hb (by simp); obtain ⟨⟨y0, y1, y2, y3⟩, -⟩ := cells4' V1; clear hb) | (go_at_call 65; with_reducible refine (HIX.out _).mono ?_; rintro e w1 ⟨rfl, rfl⟩))
  refine at_code (F := fun W => Hid (Below w.heap.size w W) ∧ Var W w.heap.size #[.slice P ps.length c1, .slice R rs.length c2, .int .i64 slots, .slice C code.length c3] 39) ?h ?_
  case h => exact ⟨HB1, V1⟩
  clear HB1 V1 y0 y1 y2 y3 HRT HIX HB HV
  rintro W ⟨HBW, VW⟩
  obtain ⟨hn1, hn2, hn3, hc1, hc2, hc3⟩ := HL.out
  have BD := Lib.hid (HBW.out.trans ((below_dr W).mono HBW.out.size))
  have VD : Var (World.drew W) w.heap.size #[.slice P ps.length c1, .slice R rs.length c2, .int .i64 slots, .slice C code.length c3] 39 := VW
  obtain ⟨⟨y0, y1, y2, y3⟩, -⟩ := cells4' VD
  have SS : (fun W' => W'.cell? ⟨w.heap.size, 0, none⟩ = some (.slice P ps.length c1) ∧ W'.cell? ⟨w.heap.size, 1, none⟩ = some (.slice R rs.length c2) ∧ W'.cell? ⟨w.heap.size, 2, none⟩ = some (.int .i64 slots)) (World.drew W) := ⟨y0, y1, y2⟩
  dsimp only at SS
  refine wp_region_held_drew (S := (fun W' => W'.cell? ⟨w.heap.size, 0, none⟩ = some (.slice P ps.length c1) ∧ W'.cell? ⟨w.heap.size, 1, none⟩ = some (.slice R rs.length c2) ∧ W'.cell? ⟨w.heap.size, 2, none⟩ = some (.int .i64 slots))) (by kernel_rfl) ?_ (fun hHeld0 => ?_)
  · first | assumption | go_keep
  refine tk (i := 0) rfl ?_
  refine tk (i := 1) rfl ?_
  refine tk (i := 5) rfl ?_
  refine tk (i := 6) rfl ?_; (try simp only [zS, zN, zT, zC, zZ])
  refine wpAnyH_ready (rs := [2]) (by kernel_rfl) (by simp) ?_
  refine (AllReadyH.cons rfl (fun K hK => ?_) AllReadyH.nil)
  go_simp
  (refine (HTX.out _ BD.out).mono ?_; rintro e w2 ⟨rfl, hb2⟩; have B2 := Lib.hid (BD.out.trans (hb2.mono BD.out.size)); have V2 := var_keep VD hb2; obtain ⟨⟨z0, z1, z2, z3⟩, -⟩ := cells4' V2; have SS2 : (fun W' => W'.cell? ⟨w.heap.size, 0, none⟩ = some (.slice P ps.length c1) ∧ W'.cell? ⟨w.heap.size, 1, none⟩ = some (.slice R rs.length c2) ∧ W'.cell? ⟨w.heap.size, 2, none⟩ = some (.int .i64 slots)) w2 := ⟨z0, z1, z2⟩; dsimp only at SS2; clear hb2)
  (try dsimp only)
  refine hK.out _ _ ?_ (fun hHeld1 => ?_)
  · first | trivial | ((try dsimp only); first | assumption | trivial | go_keep)
  clear hK K hHeld0
  (try simp only [zS, zN, zT, zC, zZ])
  refine tk (i := 3) (oi := ⟨some 16, .binOp .add 9 (.const (.string { data := #[102, 117, 110, 99, 32] })) (.tmp 15) 9, 9, "text.go:31", #[⟨2, .data⟩], none⟩) rfl ?_; (try simp only [zS, zN, zT, zC, zZ])
  refine tk (i := 4) (oi := ⟨some 17, .binOp .add 9 (.tmp 16) (.const (.string { data := #[32, 115, 108, 111, 116, 115, 32] })) 9, 9, "text.go:31", #[⟨3, .data⟩], none⟩) rfl ?_; (try simp only [zS, zN, zT, zC, zZ])
  refine wpAnyH_ready (rs := [7]) (by kernel_rfl) (by simp) ?_
  refine (AllReadyH.cons rfl (fun K hK => ?_) AllReadyH.nil)
  go_simp
  (refine (HIT.out _ (HG.out.below B2.out).tab).mono ?_; rintro e w7 ⟨rfl, hb7⟩; have B7 := Lib.hid (B2.out.trans (hb7.mono B2.out.size)); have V7 := var_keep V2 hb7; obtain ⟨⟨z0, z1, z2, z3⟩, -⟩ := cells4' V7; have SS7 : (fun W' => W'.cell? ⟨w.heap.size, 0, none⟩ = some (.slice P ps.length c1) ∧ W'.cell? ⟨w.heap.size, 1, none⟩ = some (.slice R rs.length c2) ∧ W'.cell? ⟨w.heap.size, 2, none⟩ = some (.int .i64 slots)) w7 := ⟨z0, z1, z2⟩; dsimp only at SS7; clear hb7)
  (try dsimp only)
  refine hK.out _ _ ?_ (fun hHeld2 => ?_)
  · first | trivial | ((try dsimp only); first | assumption | trivial | go_keep)
  clear hK K hHeld1
  (try simp only [zS, zN, zT, zC, zZ])
  refine tk (i := 8) (oi := ⟨some 21, .binOp .add 9 (.tmp 17) (.tmp 20) 9, 9, "text.go:31", #[⟨4, .data⟩, ⟨7, .data⟩], none⟩) rfl ?_; (try simp only [zS, zN, zT, zC, zZ])
  refine tk (i := 9) (oi := ⟨some 2, .assign (.tmp 21), 9, "text.go:31", #[⟨8, .data⟩, ⟨7, .chain⟩, ⟨0, .phase⟩, ⟨1, .phase⟩, ⟨2, .phase⟩, ⟨3, .phase⟩, ⟨4, .phase⟩, ⟨5, .phase⟩, ⟨6, .phase⟩, ⟨7, .phase⟩, ⟨8, .phase⟩], none⟩) rfl ?_; (try simp only [zS, zN, zT, zC, zZ])
  refine wpAnyH_done (by kernel_rfl) ?_ _
  (try dsimp only)
  repeat (first | go_values | go_skip | go_guarded | go_step | go_upon)
  go_ret
  exact ⟨by rw [HZ.out]; rfl, B7.out⟩
end Go.Proofs.YtadnfekogmjieaaGreatDoor
