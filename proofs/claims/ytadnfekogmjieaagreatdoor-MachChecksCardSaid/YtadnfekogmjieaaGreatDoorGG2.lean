/-
  Layer 51: mach's told and what it calls. (Printed by gen_ms2.py.)
  Layer 51: mach's told. (Printed by gen_ms3.py.)
-/
import Derived.Test.YtadnfekogmjieaaGreatDoorGMS1
set_option linter.unusedVariables false
set_option linter.unusedSimpArgs false
namespace Go.Proofs.YtadnfekogmjieaaGreatDoor
open Go.RowKit
open Mc (Pl Mi Mf)
theorem tfarP_any (p : Pl) (w : World) : Calls Tryz.prog 122 #[.agg #[.bool p.slot, .int .i64 p.n]] w fun e w' => e = .returned (.bool (Mc.far p)) ∧ Below w.heap.size w w' := by
  have HC := Lib.hid (fun W => index_any p.n W)
  have HB := Lib.hid ((Below.refl w.heap.size w).alloc (Nat.le_refl _) (.cells #[.bool p.slot, .int .i64 p.n] 64))
  go_enter Tryz.func122, Tryz.ntmps122
  go_wp2_with (go_at_call 65; with_reducible refine (HC.out _).mono ?_; rintro e w1 ⟨rfl, rfl⟩)
  go_ret
  exact ⟨rfl, HB.out⟩
theorem tfarN_any (n : Int) (w : World) : Calls Tryz.prog 123 #[.int .i64 n] w fun e w' => e = .returned (.bool (Mc.farN n)) ∧ w = w' := by
  have HC := Lib.hid (index_any n w)
  go_enter Tryz.func123, Tryz.ntmps123
  go_wp2_with (go_at_call 65; with_reducible refine HC.out.mono ?_; rintro e w1 ⟨rfl, rfl⟩)
  go_ret
  exact ⟨rfl, rfl⟩

set_option maxHeartbeats 2000000 in
set_option maxRecDepth 100000 in
theorem anyFarP_idx (S : Nat → Prop) (A : Option Addr) (c : Nat) (l : List Pl) (hl : l.length ≤ 1000000) (w : World) (h : RdP w S A l) :
    Calls Tryz.prog 147 #[.slice A l.length c, .func (.func 122) #[] #[]] w fun e w' => (∃ z : Int, e = .returned (.int .i64 z) ∧ decide (0 ≤ z) = l.any Mc.far) ∧ Below w.heap.size w w' := by
  obtain ⟨R, hR⟩ : ∃ R, l.any Mc.far = R := ⟨_, rfl⟩
  rw [hR]
  have HR : Hid (((l.drop 0).any Mc.far) = R) := Lib.hid hR
  clear hR
  go_enter Tryz.func147, Tryz.ntmps147
  go_wp2
  go_loopw [8] (fun iv wr => ∃ i : Nat, iv = .int .i64 (i : Int) ∧ i ≤ l.length ∧ Hid (((l.drop i).any Mc.far) = R) ∧ Below w.heap.size w wr) (fun iv _ => l.length - (intOf iv).toNat)
  case atStart => exact ⟨0, rfl, by omega, HR, Below.refl _ _⟩
  case round =>
    clear HR
    obtain ⟨i, rfl, hi, HR, hB⟩ := hrel
    by_cases hia : i < l.length
    · have x0 : (i : Int) < (l.length : Int) := by omega
      have x1 : (0 : Int) ≤ (i : Int) := by omega
      obtain ⟨g, o, rfl, -, -, f0, f1⟩ := (RdP.on h hB).get hia
      have hd := HR.out
      rw [List.drop_eq_getElem_cons hia, List.any_cons] at hd
      obtain ⟨p, hp⟩ : ∃ p, l[i] = p := ⟨_, rfl⟩
      rw [hp] at hd f0 f1
      clear hp HR
      have HB := Lib.hid hB
      clear hB
      rcases hq : Mc.far p with _ | _
      · rw [hq, Bool.false_or] at hd
        have HD := Lib.hid hd
        clear hd
        have hq' := Lib.hid hq
        clear hq
        go_wp2_with (go_at_call 122; refine (tfarP_any p _).mono ?_; rintro e w1 ⟨rfl, hb⟩; rw [hq'.out])
        go_roundw
        case rel => exact ⟨i + 1, by go_num, by omega, HD, HB.out.trans (hb.mono HB.out.size)⟩
        case measure => simp [intOf] <;> omega
      · rw [hq, Bool.true_or] at hd
        have HD := Lib.hid hd
        clear hd
        have hq' := Lib.hid hq
        clear hq
        go_wp2_with (go_at_call 122; refine (tfarP_any p _).mono ?_; rintro e w1 ⟨rfl, hb⟩; rw [hq'.out])
        go_ret
        exact ⟨⟨_, rfl, by rw [← HD.out]; simp⟩, HB.out.trans (hb.mono HB.out.size)⟩
    · have hi2 : i = l.length := by omega
      subst hi2
      have x0 : ¬ (l.length : Int) < (l.length : Int) := by omega
      have hd := HR.out
      rw [List.drop_length] at hd
      have HD := Lib.hid hd
      clear hd HR
      go_wp2
      go_ret
      exact ⟨⟨_, rfl, by rw [← HD.out]; simp⟩, hB⟩
theorem anyFarP_any (S : Nat → Prop) (A : Option Addr) (c : Nat) (l : List Pl) (hl : l.length ≤ 1000000) (w : World) (h : RdP w S A l) :
    Calls Tryz.prog 107 #[.slice A l.length c, .func (.func 122) #[] #[]] w fun e w' => e = .returned (.bool (l.any Mc.far)) ∧ Below w.heap.size w w' := by
  have HC := Lib.hid (anyFarP_idx S A c l hl w h)
  go_enter Tryz.func107, Tryz.ntmps107
  go_wp2_with (go_at_call 147; with_reducible refine HC.out.mono ?_; rintro e w1 ⟨⟨z, rfl, hz⟩, hb⟩)
  go_ret
  exact ⟨by rw [← hz]; rfl, hb⟩

set_option maxHeartbeats 2000000 in
set_option maxRecDepth 100000 in
theorem anyFarN_idx (S : Nat → Prop) (A : Option Addr) (c : Nat) (l : List Int) (hl : l.length ≤ 1000000) (w : World) (h : RdZ w S A l) :
    Calls Tryz.prog 110 #[.slice A l.length c, .func (.func 123) #[] #[]] w fun e w' => (∃ z : Int, e = .returned (.int .i64 z) ∧ decide (0 ≤ z) = l.any Mc.farN) ∧ Below w.heap.size w w' := by
  obtain ⟨R, hR⟩ : ∃ R, l.any Mc.farN = R := ⟨_, rfl⟩
  rw [hR]
  have HR : Hid (((l.drop 0).any Mc.farN) = R) := Lib.hid hR
  clear hR
  go_enter Tryz.func110, Tryz.ntmps110
  go_wp2
  go_loopw [8] (fun iv wr => ∃ i : Nat, iv = .int .i64 (i : Int) ∧ i ≤ l.length ∧ Hid (((l.drop i).any Mc.farN) = R) ∧ Below w.heap.size w wr) (fun iv _ => l.length - (intOf iv).toNat)
  case atStart => exact ⟨0, rfl, by omega, HR, Below.refl _ _⟩
  case round =>
    clear HR
    obtain ⟨i, rfl, hi, HR, hB⟩ := hrel
    by_cases hia : i < l.length
    · have x0 : (i : Int) < (l.length : Int) := by omega
      have x1 : (0 : Int) ≤ (i : Int) := by omega
      obtain ⟨g, o, rfl, -, -, f0'⟩ := (RdZ.on h hB).get hia
      have f0 : wr.cell? ⟨g, o + i, none⟩ = some (.int .i64 l[i]) := by simpa [ZAt] using f0'
      clear f0'
      have hd := HR.out
      rw [List.drop_eq_getElem_cons hia, List.any_cons] at hd
      obtain ⟨p, hp⟩ : ∃ p, l[i] = p := ⟨_, rfl⟩
      rw [hp] at hd f0
      clear hp HR
      have HB := Lib.hid hB
      clear hB
      rcases hq : Mc.farN p with _ | _
      · rw [hq, Bool.false_or] at hd
        have HD := Lib.hid hd
        clear hd
        have hq' := Lib.hid hq
        clear hq
        go_wp2_with (go_at_call 123; refine (tfarN_any p _).mono ?_; rintro e w1 ⟨rfl, rfl⟩; have hb := Below.refl wr.heap.size wr; rw [hq'.out])
        go_roundw
        case rel => exact ⟨i + 1, by go_num, by omega, HD, HB.out.trans (hb.mono HB.out.size)⟩
        case measure => simp [intOf] <;> omega
      · rw [hq, Bool.true_or] at hd
        have HD := Lib.hid hd
        clear hd
        have hq' := Lib.hid hq
        clear hq
        go_wp2_with (go_at_call 123; refine (tfarN_any p _).mono ?_; rintro e w1 ⟨rfl, rfl⟩; have hb := Below.refl wr.heap.size wr; rw [hq'.out])
        go_ret
        exact ⟨⟨_, rfl, by rw [← HD.out]; simp⟩, HB.out.trans (hb.mono HB.out.size)⟩
    · have hi2 : i = l.length := by omega
      subst hi2
      have x0 : ¬ (l.length : Int) < (l.length : Int) := by omega
      have hd := HR.out
      rw [List.drop_length] at hd
      have HD := Lib.hid hd
      clear hd HR
      go_wp2
      go_ret
      exact ⟨⟨_, rfl, by rw [← HD.out]; simp⟩, hB⟩
theorem anyFarN_any (S : Nat → Prop) (A : Option Addr) (c : Nat) (l : List Int) (hl : l.length ≤ 1000000) (w : World) (h : RdZ w S A l) :
    Calls Tryz.prog 60 #[.slice A l.length c, .func (.func 123) #[] #[]] w fun e w' => e = .returned (.bool (l.any Mc.farN)) ∧ Below w.heap.size w w' := by
  have HC := Lib.hid (anyFarN_idx S A c l hl w h)
  go_enter Tryz.func60, Tryz.ntmps60
  go_wp2_with (go_at_call 110; with_reducible refine HC.out.mono ?_; rintro e w1 ⟨⟨z, rfl, hz⟩, hb⟩)
  go_ret
  exact ⟨by rw [← hz]; rfl, hb⟩
end Go.Proofs.YtadnfekogmjieaaGreatDoor
set_option linter.unusedVariables false
set_option linter.unusedSimpArgs false
namespace Go.Proofs.YtadnfekogmjieaaGreatDoor
open Go.RowKit
open Mc (Pl Mi Mf)
set_option maxHeartbeats 16000000 in
set_option maxRecDepth 100000 in
theorem told_any (x : Mi) (hd : x.d.length ≤ 1000000) (hs : x.s.length ≤ 1000000) (hto : x.tos.length ≤ 1000000) (S : Nat → Prop) (D : Option Addr) (c1 : Nat) (E : Option Addr) (c2 : Nat) (T : Option Addr) (c3 : Nat) (w : World) (G : GlobM w) (h : MiRd S w x D E T) :
    Calls Tryz.prog 69 #[.agg (miV x D c1 E c2 T c3)] w fun e w' => e = .returned (.bool (Mc.told x)) ∧ Below w.heap.size w w' := by
  have ht : Mc.told x = (Mc.toldA x && ((!x.d.any Mc.far && !x.s.any Mc.far) && !x.tos.any Mc.farN)) := rfl
  have hta : Mc.toldA x = ((((((Mc.spare x && !((Mc.row x.kind).op && (!Opc.known x.op || x.op == 28))) && Mc.index x.a) && Mc.index x.b) && !decide (x.trap < 0)) && !decide (12 < x.trap))) := rfl
  rw [hta] at ht
  clear hta
  have HSP := Lib.hid (fun W (hR : Rws W) => spare_any x D c1 E c2 T c3 W hR)
  have HKN := Lib.hid (fun W (G : Glob W) => oknown_any x.op W G)
  rw [Mc.known_name] at HKN
  have HIA := Lib.hid (fun W => index_any x.a W)
  have HIB := Lib.hid (fun W => index_any x.b W)
  have HD := Lib.hid (fun W (h : RdP W S D x.d) => anyFarP_any S D c1 x.d hd W h)
  have HE := Lib.hid (fun W (h : RdP W S E x.s) => anyFarP_any S E c2 x.s hs W h)
  have HT := Lib.hid (fun W (h : RdZ W S T x.tos) => anyFarN_any S T c3 x.tos hto W h)
  have hwk : Mc.spare x = true → Mc.within x.kind 23 = true := fun h => by unfold Mc.spare at h; simp only [Bool.and_eq_true] at h; exact h.1
  obtain ⟨sp, hsp⟩ : ∃ v, Mc.spare x = v := ⟨_, rfl⟩
  obtain ⟨kn, hkn⟩ : ∃ v, Opc.known x.op = v := ⟨_, rfl⟩
  obtain ⟨ia, hia⟩ : ∃ v, Mc.index x.a = v := ⟨_, rfl⟩
  obtain ⟨ib, hib⟩ : ∃ v, Mc.index x.b = v := ⟨_, rfl⟩
  obtain ⟨fd, hfd⟩ : ∃ v, x.d.any Mc.far = v := ⟨_, rfl⟩
  obtain ⟨fs, hfs⟩ : ∃ v, x.s.any Mc.far = v := ⟨_, rfl⟩
  obtain ⟨ft, hft⟩ : ∃ v, x.tos.any Mc.farN = v := ⟨_, rfl⟩
  rw [hsp] at HSP ht hwk
  rw [hkn] at HKN ht
  rw [hia] at HIA ht
  rw [hib] at HIB ht
  rw [hfd] at HD ht
  rw [hfs] at HE ht
  rw [hft] at HT ht
  clear hsp hkn hia hib hfd hfs hft hd hs hto
  obtain ⟨kind, op, a, b, n, d, s, tos, trap⟩ := x
  have HM := Lib.hid h
  have HG := Lib.hid G
  clear h G
  unfold miV at *
  dsimp only at *
  have HB := Lib.hid ((Below.refl w.heap.size w).alloc (Nat.le_refl _) (.cells #[.int .i64 kind, .int .i64 op, .int .i64 a, .int .i64 b, .int .u64 (n : Int), .slice D d.length c1, .slice E s.length c2, .slice T tos.length c3, .int .i64 trap] 61))
  have HV := Lib.hid (Var.new w #[.int .i64 kind, .int .i64 op, .int .i64 a, .int .i64 b, .int .u64 (n : Int), .slice D d.length c1, .slice E s.length c2, .slice T tos.length c3, .int .i64 trap] 61)
  rcases sp with _ | _
  · have HX := Lib.hid ht
    clear ht hwk
    go_enter Tryz.func69, Tryz.ntmps69
    go_wp2_with (go_at_call 55; with_reducible refine (HSP.out _ (HG.out.r.below HB.out)).mono ?_; rintro e w1 ⟨rfl, hb⟩; have HB1 := Lib.hid (HB.out.trans (hb.mono HB.out.size)); clear hb)
    go_ret
    exact ⟨by rw [HX.out]; rfl, HB1.out⟩
  obtain ⟨k, rfl, hk23⟩ := within_nat (hwk rfl)
  obtain ⟨⟨rw, ro, ra, rb, rn, rt⟩, hrow⟩ : ∃ r, Mc.row (k : Int) = r := ⟨_, rfl⟩
  rw [hrow] at ht
  dsimp only at ht
  have HAt := Lib.hid (fun W (h : Rws W) => h.at_ hk23)
  rw [hrow] at HAt
  dsimp only at HAt
  have x0 : (0 : Int) ≤ (k : Int) := by omega
  have x1 : (k : Int) < 24 := by omega
  clear hwk hrow
  rcases ro with _ | _
  · skip
    rcases ia with _ | _
    · skip
      have HX := Lib.hid ht
      clear ht
      go_enter Tryz.func69, Tryz.ntmps69
      go_wp2_with (first
      | (go_at_call 55; with_reducible refine (HSP.out _ (HG.out.r.below HB.out)).mono ?_; rintro e w1 ⟨rfl, hb⟩; have HB1 := Lib.hid (HB.out.trans (hb.mono HB.out.size)); have V1 := HV.out.below hb (by simp); obtain ⟨a0, a1, a2, a3, a4, a5, a6, a7, a8⟩ := cells9 V1; obtain ⟨-, r1, -, -, -, -⟩ := HAt.out _ (HG.out.r.below HB1.out); clear hb)
      | (go_at_call 65; (first | with_reducible refine (HIA.out _).mono ?_ | with_reducible refine (HIB.out _).mono ?_); rintro e w3 ⟨rfl, rfl⟩)
      | (go_at_call 107; with_reducible refine (HD.out _ (RdP.on HM.out.d HB1.out)).mono ?_; rintro e w4 ⟨rfl, hb⟩; have HB4 := Lib.hid (HB1.out.trans (hb.mono HB1.out.size)); have V4 := var_keep V1 hb; obtain ⟨d0, d1, d2, d3, d4, d5, d6, d7, d8⟩ := cells9 V4; clear hb)
      | (go_at_call 107; with_reducible refine (HE.out _ (RdP.on HM.out.s HB4.out)).mono ?_; rintro e w5 ⟨rfl, hb⟩; have HB5 := Lib.hid (HB4.out.trans (hb.mono HB4.out.size)); have V5 := var_keep V4 hb; obtain ⟨e0, e1, e2, e3, e4, e5, e6, e7, e8⟩ := cells9 V5; clear hb)
      | (go_at_call 60; with_reducible refine (HT.out _ (RdZ.on HM.out.t HB5.out)).mono ?_; rintro e w6 ⟨rfl, hb⟩; have HB6 := Lib.hid (HB5.out.trans (hb.mono HB5.out.size)); clear hb))
      go_ret
      exact ⟨by rw [HX.out]; rfl, HB1.out⟩
    · skip
      rcases ib with _ | _
      · skip
        have HX := Lib.hid ht
        clear ht
        go_enter Tryz.func69, Tryz.ntmps69
        go_wp2_with (first
      | (go_at_call 55; with_reducible refine (HSP.out _ (HG.out.r.below HB.out)).mono ?_; rintro e w1 ⟨rfl, hb⟩; have HB1 := Lib.hid (HB.out.trans (hb.mono HB.out.size)); have V1 := HV.out.below hb (by simp); obtain ⟨a0, a1, a2, a3, a4, a5, a6, a7, a8⟩ := cells9 V1; obtain ⟨-, r1, -, -, -, -⟩ := HAt.out _ (HG.out.r.below HB1.out); clear hb)
      | (go_at_call 65; (first | with_reducible refine (HIA.out _).mono ?_ | with_reducible refine (HIB.out _).mono ?_); rintro e w3 ⟨rfl, rfl⟩)
      | (go_at_call 107; with_reducible refine (HD.out _ (RdP.on HM.out.d HB1.out)).mono ?_; rintro e w4 ⟨rfl, hb⟩; have HB4 := Lib.hid (HB1.out.trans (hb.mono HB1.out.size)); have V4 := var_keep V1 hb; obtain ⟨d0, d1, d2, d3, d4, d5, d6, d7, d8⟩ := cells9 V4; clear hb)
      | (go_at_call 107; with_reducible refine (HE.out _ (RdP.on HM.out.s HB4.out)).mono ?_; rintro e w5 ⟨rfl, hb⟩; have HB5 := Lib.hid (HB4.out.trans (hb.mono HB4.out.size)); have V5 := var_keep V4 hb; obtain ⟨e0, e1, e2, e3, e4, e5, e6, e7, e8⟩ := cells9 V5; clear hb)
      | (go_at_call 60; with_reducible refine (HT.out _ (RdZ.on HM.out.t HB5.out)).mono ?_; rintro e w6 ⟨rfl, hb⟩; have HB6 := Lib.hid (HB5.out.trans (hb.mono HB5.out.size)); clear hb))
        go_ret
        exact ⟨by rw [HX.out]; rfl, HB1.out⟩
      · skip
        rcases htl : decide (trap < 0) with _ | _
        all_goals rw [htl] at ht
        · skip
          rcases htg : decide (12 < trap) with _ | _
          all_goals rw [htg] at ht
          · skip
            rcases fd with _ | _
            · skip
              rcases fs with _ | _
              · skip
                rcases ft with _ | _
                · skip
                  have HX := Lib.hid ht
                  clear ht
                  go_enter Tryz.func69, Tryz.ntmps69
                  go_wp2_with (first
      | (go_at_call 55; with_reducible refine (HSP.out _ (HG.out.r.below HB.out)).mono ?_; rintro e w1 ⟨rfl, hb⟩; have HB1 := Lib.hid (HB.out.trans (hb.mono HB.out.size)); have V1 := HV.out.below hb (by simp); obtain ⟨a0, a1, a2, a3, a4, a5, a6, a7, a8⟩ := cells9 V1; obtain ⟨-, r1, -, -, -, -⟩ := HAt.out _ (HG.out.r.below HB1.out); clear hb)
      | (go_at_call 65; (first | with_reducible refine (HIA.out _).mono ?_ | with_reducible refine (HIB.out _).mono ?_); rintro e w3 ⟨rfl, rfl⟩)
      | (go_at_call 107; with_reducible refine (HD.out _ (RdP.on HM.out.d HB1.out)).mono ?_; rintro e w4 ⟨rfl, hb⟩; have HB4 := Lib.hid (HB1.out.trans (hb.mono HB1.out.size)); have V4 := var_keep V1 hb; obtain ⟨d0, d1, d2, d3, d4, d5, d6, d7, d8⟩ := cells9 V4; clear hb)
      | (go_at_call 107; with_reducible refine (HE.out _ (RdP.on HM.out.s HB4.out)).mono ?_; rintro e w5 ⟨rfl, hb⟩; have HB5 := Lib.hid (HB4.out.trans (hb.mono HB4.out.size)); have V5 := var_keep V4 hb; obtain ⟨e0, e1, e2, e3, e4, e5, e6, e7, e8⟩ := cells9 V5; clear hb)
      | (go_at_call 60; with_reducible refine (HT.out _ (RdZ.on HM.out.t HB5.out)).mono ?_; rintro e w6 ⟨rfl, hb⟩; have HB6 := Lib.hid (HB5.out.trans (hb.mono HB5.out.size)); clear hb))
                  go_ret
                  exact ⟨by rw [HX.out]; rfl, HB6.out⟩
                · skip
                  have HX := Lib.hid ht
                  clear ht
                  go_enter Tryz.func69, Tryz.ntmps69
                  go_wp2_with (first
      | (go_at_call 55; with_reducible refine (HSP.out _ (HG.out.r.below HB.out)).mono ?_; rintro e w1 ⟨rfl, hb⟩; have HB1 := Lib.hid (HB.out.trans (hb.mono HB.out.size)); have V1 := HV.out.below hb (by simp); obtain ⟨a0, a1, a2, a3, a4, a5, a6, a7, a8⟩ := cells9 V1; obtain ⟨-, r1, -, -, -, -⟩ := HAt.out _ (HG.out.r.below HB1.out); clear hb)
      | (go_at_call 65; (first | with_reducible refine (HIA.out _).mono ?_ | with_reducible refine (HIB.out _).mono ?_); rintro e w3 ⟨rfl, rfl⟩)
      | (go_at_call 107; with_reducible refine (HD.out _ (RdP.on HM.out.d HB1.out)).mono ?_; rintro e w4 ⟨rfl, hb⟩; have HB4 := Lib.hid (HB1.out.trans (hb.mono HB1.out.size)); have V4 := var_keep V1 hb; obtain ⟨d0, d1, d2, d3, d4, d5, d6, d7, d8⟩ := cells9 V4; clear hb)
      | (go_at_call 107; with_reducible refine (HE.out _ (RdP.on HM.out.s HB4.out)).mono ?_; rintro e w5 ⟨rfl, hb⟩; have HB5 := Lib.hid (HB4.out.trans (hb.mono HB4.out.size)); have V5 := var_keep V4 hb; obtain ⟨e0, e1, e2, e3, e4, e5, e6, e7, e8⟩ := cells9 V5; clear hb)
      | (go_at_call 60; with_reducible refine (HT.out _ (RdZ.on HM.out.t HB5.out)).mono ?_; rintro e w6 ⟨rfl, hb⟩; have HB6 := Lib.hid (HB5.out.trans (hb.mono HB5.out.size)); clear hb))
                  go_ret
                  exact ⟨by rw [HX.out]; rfl, HB6.out⟩
              · skip
                have HX := Lib.hid ht
                clear ht
                go_enter Tryz.func69, Tryz.ntmps69
                go_wp2_with (first
      | (go_at_call 55; with_reducible refine (HSP.out _ (HG.out.r.below HB.out)).mono ?_; rintro e w1 ⟨rfl, hb⟩; have HB1 := Lib.hid (HB.out.trans (hb.mono HB.out.size)); have V1 := HV.out.below hb (by simp); obtain ⟨a0, a1, a2, a3, a4, a5, a6, a7, a8⟩ := cells9 V1; obtain ⟨-, r1, -, -, -, -⟩ := HAt.out _ (HG.out.r.below HB1.out); clear hb)
      | (go_at_call 65; (first | with_reducible refine (HIA.out _).mono ?_ | with_reducible refine (HIB.out _).mono ?_); rintro e w3 ⟨rfl, rfl⟩)
      | (go_at_call 107; with_reducible refine (HD.out _ (RdP.on HM.out.d HB1.out)).mono ?_; rintro e w4 ⟨rfl, hb⟩; have HB4 := Lib.hid (HB1.out.trans (hb.mono HB1.out.size)); have V4 := var_keep V1 hb; obtain ⟨d0, d1, d2, d3, d4, d5, d6, d7, d8⟩ := cells9 V4; clear hb)
      | (go_at_call 107; with_reducible refine (HE.out _ (RdP.on HM.out.s HB4.out)).mono ?_; rintro e w5 ⟨rfl, hb⟩; have HB5 := Lib.hid (HB4.out.trans (hb.mono HB4.out.size)); have V5 := var_keep V4 hb; obtain ⟨e0, e1, e2, e3, e4, e5, e6, e7, e8⟩ := cells9 V5; clear hb)
      | (go_at_call 60; with_reducible refine (HT.out _ (RdZ.on HM.out.t HB5.out)).mono ?_; rintro e w6 ⟨rfl, hb⟩; have HB6 := Lib.hid (HB5.out.trans (hb.mono HB5.out.size)); clear hb))
                go_ret
                exact ⟨by rw [HX.out]; rfl, HB5.out⟩
            · skip
              have HX := Lib.hid ht
              clear ht
              go_enter Tryz.func69, Tryz.ntmps69
              go_wp2_with (first
      | (go_at_call 55; with_reducible refine (HSP.out _ (HG.out.r.below HB.out)).mono ?_; rintro e w1 ⟨rfl, hb⟩; have HB1 := Lib.hid (HB.out.trans (hb.mono HB.out.size)); have V1 := HV.out.below hb (by simp); obtain ⟨a0, a1, a2, a3, a4, a5, a6, a7, a8⟩ := cells9 V1; obtain ⟨-, r1, -, -, -, -⟩ := HAt.out _ (HG.out.r.below HB1.out); clear hb)
      | (go_at_call 65; (first | with_reducible refine (HIA.out _).mono ?_ | with_reducible refine (HIB.out _).mono ?_); rintro e w3 ⟨rfl, rfl⟩)
      | (go_at_call 107; with_reducible refine (HD.out _ (RdP.on HM.out.d HB1.out)).mono ?_; rintro e w4 ⟨rfl, hb⟩; have HB4 := Lib.hid (HB1.out.trans (hb.mono HB1.out.size)); have V4 := var_keep V1 hb; obtain ⟨d0, d1, d2, d3, d4, d5, d6, d7, d8⟩ := cells9 V4; clear hb)
      | (go_at_call 107; with_reducible refine (HE.out _ (RdP.on HM.out.s HB4.out)).mono ?_; rintro e w5 ⟨rfl, hb⟩; have HB5 := Lib.hid (HB4.out.trans (hb.mono HB4.out.size)); have V5 := var_keep V4 hb; obtain ⟨e0, e1, e2, e3, e4, e5, e6, e7, e8⟩ := cells9 V5; clear hb)
      | (go_at_call 60; with_reducible refine (HT.out _ (RdZ.on HM.out.t HB5.out)).mono ?_; rintro e w6 ⟨rfl, hb⟩; have HB6 := Lib.hid (HB5.out.trans (hb.mono HB5.out.size)); clear hb))
              go_ret
              exact ⟨by rw [HX.out]; rfl, HB4.out⟩
          · skip
            have HX := Lib.hid ht
            clear ht
            go_enter Tryz.func69, Tryz.ntmps69
            go_wp2_with (first
      | (go_at_call 55; with_reducible refine (HSP.out _ (HG.out.r.below HB.out)).mono ?_; rintro e w1 ⟨rfl, hb⟩; have HB1 := Lib.hid (HB.out.trans (hb.mono HB.out.size)); have V1 := HV.out.below hb (by simp); obtain ⟨a0, a1, a2, a3, a4, a5, a6, a7, a8⟩ := cells9 V1; obtain ⟨-, r1, -, -, -, -⟩ := HAt.out _ (HG.out.r.below HB1.out); clear hb)
      | (go_at_call 65; (first | with_reducible refine (HIA.out _).mono ?_ | with_reducible refine (HIB.out _).mono ?_); rintro e w3 ⟨rfl, rfl⟩)
      | (go_at_call 107; with_reducible refine (HD.out _ (RdP.on HM.out.d HB1.out)).mono ?_; rintro e w4 ⟨rfl, hb⟩; have HB4 := Lib.hid (HB1.out.trans (hb.mono HB1.out.size)); have V4 := var_keep V1 hb; obtain ⟨d0, d1, d2, d3, d4, d5, d6, d7, d8⟩ := cells9 V4; clear hb)
      | (go_at_call 107; with_reducible refine (HE.out _ (RdP.on HM.out.s HB4.out)).mono ?_; rintro e w5 ⟨rfl, hb⟩; have HB5 := Lib.hid (HB4.out.trans (hb.mono HB4.out.size)); have V5 := var_keep V4 hb; obtain ⟨e0, e1, e2, e3, e4, e5, e6, e7, e8⟩ := cells9 V5; clear hb)
      | (go_at_call 60; with_reducible refine (HT.out _ (RdZ.on HM.out.t HB5.out)).mono ?_; rintro e w6 ⟨rfl, hb⟩; have HB6 := Lib.hid (HB5.out.trans (hb.mono HB5.out.size)); clear hb))
            go_ret
            exact ⟨by rw [HX.out]; rfl, HB1.out⟩
        · skip
          have HX := Lib.hid ht
          clear ht
          go_enter Tryz.func69, Tryz.ntmps69
          go_wp2_with (first
      | (go_at_call 55; with_reducible refine (HSP.out _ (HG.out.r.below HB.out)).mono ?_; rintro e w1 ⟨rfl, hb⟩; have HB1 := Lib.hid (HB.out.trans (hb.mono HB.out.size)); have V1 := HV.out.below hb (by simp); obtain ⟨a0, a1, a2, a3, a4, a5, a6, a7, a8⟩ := cells9 V1; obtain ⟨-, r1, -, -, -, -⟩ := HAt.out _ (HG.out.r.below HB1.out); clear hb)
      | (go_at_call 65; (first | with_reducible refine (HIA.out _).mono ?_ | with_reducible refine (HIB.out _).mono ?_); rintro e w3 ⟨rfl, rfl⟩)
      | (go_at_call 107; with_reducible refine (HD.out _ (RdP.on HM.out.d HB1.out)).mono ?_; rintro e w4 ⟨rfl, hb⟩; have HB4 := Lib.hid (HB1.out.trans (hb.mono HB1.out.size)); have V4 := var_keep V1 hb; obtain ⟨d0, d1, d2, d3, d4, d5, d6, d7, d8⟩ := cells9 V4; clear hb)
      | (go_at_call 107; with_reducible refine (HE.out _ (RdP.on HM.out.s HB4.out)).mono ?_; rintro e w5 ⟨rfl, hb⟩; have HB5 := Lib.hid (HB4.out.trans (hb.mono HB4.out.size)); have V5 := var_keep V4 hb; obtain ⟨e0, e1, e2, e3, e4, e5, e6, e7, e8⟩ := cells9 V5; clear hb)
      | (go_at_call 60; with_reducible refine (HT.out _ (RdZ.on HM.out.t HB5.out)).mono ?_; rintro e w6 ⟨rfl, hb⟩; have HB6 := Lib.hid (HB5.out.trans (hb.mono HB5.out.size)); clear hb))
          go_ret
          exact ⟨by rw [HX.out]; rfl, HB1.out⟩
  · rcases kn with _ | _
    · skip
      have HX := Lib.hid ht
      clear ht
      go_enter Tryz.func69, Tryz.ntmps69
      go_wp2_with (first
      | (go_at_call 55; with_reducible refine (HSP.out _ (HG.out.r.below HB.out)).mono ?_; rintro e w1 ⟨rfl, hb⟩; have HB1 := Lib.hid (HB.out.trans (hb.mono HB.out.size)); have V1 := HV.out.below hb (by simp); obtain ⟨a0, a1, a2, a3, a4, a5, a6, a7, a8⟩ := cells9 V1; obtain ⟨-, r1, -, -, -, -⟩ := HAt.out _ (HG.out.r.below HB1.out); clear hb)
      | (go_at_call 121; with_reducible refine (HKN.out _ (HG.out.g.below HB1.out)).mono ?_; rintro e w2 ⟨rfl, hb⟩; have HB2 := Lib.hid (HB1.out.trans (hb.mono HB1.out.size)); have V2 := var_keep V1 hb; obtain ⟨b0, b1, b2, b3, b4, b5, b6, b7, b8⟩ := cells9 V2; clear hb)
      | (go_at_call 65; (first | with_reducible refine (HIA.out _).mono ?_ | with_reducible refine (HIB.out _).mono ?_); rintro e w3 ⟨rfl, rfl⟩)
      | (go_at_call 107; with_reducible refine (HD.out _ (RdP.on HM.out.d HB2.out)).mono ?_; rintro e w4 ⟨rfl, hb⟩; have HB4 := Lib.hid (HB2.out.trans (hb.mono HB2.out.size)); have V4 := var_keep V2 hb; obtain ⟨d0, d1, d2, d3, d4, d5, d6, d7, d8⟩ := cells9 V4; clear hb)
      | (go_at_call 107; with_reducible refine (HE.out _ (RdP.on HM.out.s HB4.out)).mono ?_; rintro e w5 ⟨rfl, hb⟩; have HB5 := Lib.hid (HB4.out.trans (hb.mono HB4.out.size)); have V5 := var_keep V4 hb; obtain ⟨e0, e1, e2, e3, e4, e5, e6, e7, e8⟩ := cells9 V5; clear hb)
      | (go_at_call 60; with_reducible refine (HT.out _ (RdZ.on HM.out.t HB5.out)).mono ?_; rintro e w6 ⟨rfl, hb⟩; have HB6 := Lib.hid (HB5.out.trans (hb.mono HB5.out.size)); clear hb))
      go_ret
      exact ⟨by rw [HX.out]; rfl, HB2.out⟩
    · rcases hq : (op == 28) with _ | _
      all_goals rw [hq] at ht
      · skip
        rcases ia with _ | _
        · skip
          have HX := Lib.hid ht
          clear ht
          go_enter Tryz.func69, Tryz.ntmps69
          go_wp2_with (first
      | (go_at_call 55; with_reducible refine (HSP.out _ (HG.out.r.below HB.out)).mono ?_; rintro e w1 ⟨rfl, hb⟩; have HB1 := Lib.hid (HB.out.trans (hb.mono HB.out.size)); have V1 := HV.out.below hb (by simp); obtain ⟨a0, a1, a2, a3, a4, a5, a6, a7, a8⟩ := cells9 V1; obtain ⟨-, r1, -, -, -, -⟩ := HAt.out _ (HG.out.r.below HB1.out); clear hb)
      | (go_at_call 121; with_reducible refine (HKN.out _ (HG.out.g.below HB1.out)).mono ?_; rintro e w2 ⟨rfl, hb⟩; have HB2 := Lib.hid (HB1.out.trans (hb.mono HB1.out.size)); have V2 := var_keep V1 hb; obtain ⟨b0, b1, b2, b3, b4, b5, b6, b7, b8⟩ := cells9 V2; clear hb)
      | (go_at_call 65; (first | with_reducible refine (HIA.out _).mono ?_ | with_reducible refine (HIB.out _).mono ?_); rintro e w3 ⟨rfl, rfl⟩)
      | (go_at_call 107; with_reducible refine (HD.out _ (RdP.on HM.out.d HB2.out)).mono ?_; rintro e w4 ⟨rfl, hb⟩; have HB4 := Lib.hid (HB2.out.trans (hb.mono HB2.out.size)); have V4 := var_keep V2 hb; obtain ⟨d0, d1, d2, d3, d4, d5, d6, d7, d8⟩ := cells9 V4; clear hb)
      | (go_at_call 107; with_reducible refine (HE.out _ (RdP.on HM.out.s HB4.out)).mono ?_; rintro e w5 ⟨rfl, hb⟩; have HB5 := Lib.hid (HB4.out.trans (hb.mono HB4.out.size)); have V5 := var_keep V4 hb; obtain ⟨e0, e1, e2, e3, e4, e5, e6, e7, e8⟩ := cells9 V5; clear hb)
      | (go_at_call 60; with_reducible refine (HT.out _ (RdZ.on HM.out.t HB5.out)).mono ?_; rintro e w6 ⟨rfl, hb⟩; have HB6 := Lib.hid (HB5.out.trans (hb.mono HB5.out.size)); clear hb))
          go_ret
          exact ⟨by rw [HX.out]; rfl, HB2.out⟩
        · skip
          rcases ib with _ | _
          · skip
            have HX := Lib.hid ht
            clear ht
            go_enter Tryz.func69, Tryz.ntmps69
            go_wp2_with (first
      | (go_at_call 55; with_reducible refine (HSP.out _ (HG.out.r.below HB.out)).mono ?_; rintro e w1 ⟨rfl, hb⟩; have HB1 := Lib.hid (HB.out.trans (hb.mono HB.out.size)); have V1 := HV.out.below hb (by simp); obtain ⟨a0, a1, a2, a3, a4, a5, a6, a7, a8⟩ := cells9 V1; obtain ⟨-, r1, -, -, -, -⟩ := HAt.out _ (HG.out.r.below HB1.out); clear hb)
      | (go_at_call 121; with_reducible refine (HKN.out _ (HG.out.g.below HB1.out)).mono ?_; rintro e w2 ⟨rfl, hb⟩; have HB2 := Lib.hid (HB1.out.trans (hb.mono HB1.out.size)); have V2 := var_keep V1 hb; obtain ⟨b0, b1, b2, b3, b4, b5, b6, b7, b8⟩ := cells9 V2; clear hb)
      | (go_at_call 65; (first | with_reducible refine (HIA.out _).mono ?_ | with_reducible refine (HIB.out _).mono ?_); rintro e w3 ⟨rfl, rfl⟩)
      | (go_at_call 107; with_reducible refine (HD.out _ (RdP.on HM.out.d HB2.out)).mono ?_; rintro e w4 ⟨rfl, hb⟩; have HB4 := Lib.hid (HB2.out.trans (hb.mono HB2.out.size)); have V4 := var_keep V2 hb; obtain ⟨d0, d1, d2, d3, d4, d5, d6, d7, d8⟩ := cells9 V4; clear hb)
      | (go_at_call 107; with_reducible refine (HE.out _ (RdP.on HM.out.s HB4.out)).mono ?_; rintro e w5 ⟨rfl, hb⟩; have HB5 := Lib.hid (HB4.out.trans (hb.mono HB4.out.size)); have V5 := var_keep V4 hb; obtain ⟨e0, e1, e2, e3, e4, e5, e6, e7, e8⟩ := cells9 V5; clear hb)
      | (go_at_call 60; with_reducible refine (HT.out _ (RdZ.on HM.out.t HB5.out)).mono ?_; rintro e w6 ⟨rfl, hb⟩; have HB6 := Lib.hid (HB5.out.trans (hb.mono HB5.out.size)); clear hb))
            go_ret
            exact ⟨by rw [HX.out]; rfl, HB2.out⟩
          · skip
            rcases htl : decide (trap < 0) with _ | _
            all_goals rw [htl] at ht
            · skip
              rcases htg : decide (12 < trap) with _ | _
              all_goals rw [htg] at ht
              · skip
                rcases fd with _ | _
                · skip
                  rcases fs with _ | _
                  · skip
                    rcases ft with _ | _
                    · skip
                      have HX := Lib.hid ht
                      clear ht
                      go_enter Tryz.func69, Tryz.ntmps69
                      go_wp2_with (first
      | (go_at_call 55; with_reducible refine (HSP.out _ (HG.out.r.below HB.out)).mono ?_; rintro e w1 ⟨rfl, hb⟩; have HB1 := Lib.hid (HB.out.trans (hb.mono HB.out.size)); have V1 := HV.out.below hb (by simp); obtain ⟨a0, a1, a2, a3, a4, a5, a6, a7, a8⟩ := cells9 V1; obtain ⟨-, r1, -, -, -, -⟩ := HAt.out _ (HG.out.r.below HB1.out); clear hb)
      | (go_at_call 121; with_reducible refine (HKN.out _ (HG.out.g.below HB1.out)).mono ?_; rintro e w2 ⟨rfl, hb⟩; have HB2 := Lib.hid (HB1.out.trans (hb.mono HB1.out.size)); have V2 := var_keep V1 hb; obtain ⟨b0, b1, b2, b3, b4, b5, b6, b7, b8⟩ := cells9 V2; clear hb)
      | (go_at_call 65; (first | with_reducible refine (HIA.out _).mono ?_ | with_reducible refine (HIB.out _).mono ?_); rintro e w3 ⟨rfl, rfl⟩)
      | (go_at_call 107; with_reducible refine (HD.out _ (RdP.on HM.out.d HB2.out)).mono ?_; rintro e w4 ⟨rfl, hb⟩; have HB4 := Lib.hid (HB2.out.trans (hb.mono HB2.out.size)); have V4 := var_keep V2 hb; obtain ⟨d0, d1, d2, d3, d4, d5, d6, d7, d8⟩ := cells9 V4; clear hb)
      | (go_at_call 107; with_reducible refine (HE.out _ (RdP.on HM.out.s HB4.out)).mono ?_; rintro e w5 ⟨rfl, hb⟩; have HB5 := Lib.hid (HB4.out.trans (hb.mono HB4.out.size)); have V5 := var_keep V4 hb; obtain ⟨e0, e1, e2, e3, e4, e5, e6, e7, e8⟩ := cells9 V5; clear hb)
      | (go_at_call 60; with_reducible refine (HT.out _ (RdZ.on HM.out.t HB5.out)).mono ?_; rintro e w6 ⟨rfl, hb⟩; have HB6 := Lib.hid (HB5.out.trans (hb.mono HB5.out.size)); clear hb))
                      go_ret
                      exact ⟨by rw [HX.out]; rfl, HB6.out⟩
                    · skip
                      have HX := Lib.hid ht
                      clear ht
                      go_enter Tryz.func69, Tryz.ntmps69
                      go_wp2_with (first
      | (go_at_call 55; with_reducible refine (HSP.out _ (HG.out.r.below HB.out)).mono ?_; rintro e w1 ⟨rfl, hb⟩; have HB1 := Lib.hid (HB.out.trans (hb.mono HB.out.size)); have V1 := HV.out.below hb (by simp); obtain ⟨a0, a1, a2, a3, a4, a5, a6, a7, a8⟩ := cells9 V1; obtain ⟨-, r1, -, -, -, -⟩ := HAt.out _ (HG.out.r.below HB1.out); clear hb)
      | (go_at_call 121; with_reducible refine (HKN.out _ (HG.out.g.below HB1.out)).mono ?_; rintro e w2 ⟨rfl, hb⟩; have HB2 := Lib.hid (HB1.out.trans (hb.mono HB1.out.size)); have V2 := var_keep V1 hb; obtain ⟨b0, b1, b2, b3, b4, b5, b6, b7, b8⟩ := cells9 V2; clear hb)
      | (go_at_call 65; (first | with_reducible refine (HIA.out _).mono ?_ | with_reducible refine (HIB.out _).mono ?_); rintro e w3 ⟨rfl, rfl⟩)
      | (go_at_call 107; with_reducible refine (HD.out _ (RdP.on HM.out.d HB2.out)).mono ?_; rintro e w4 ⟨rfl, hb⟩; have HB4 := Lib.hid (HB2.out.trans (hb.mono HB2.out.size)); have V4 := var_keep V2 hb; obtain ⟨d0, d1, d2, d3, d4, d5, d6, d7, d8⟩ := cells9 V4; clear hb)
      | (go_at_call 107; with_reducible refine (HE.out _ (RdP.on HM.out.s HB4.out)).mono ?_; rintro e w5 ⟨rfl, hb⟩; have HB5 := Lib.hid (HB4.out.trans (hb.mono HB4.out.size)); have V5 := var_keep V4 hb; obtain ⟨e0, e1, e2, e3, e4, e5, e6, e7, e8⟩ := cells9 V5; clear hb)
      | (go_at_call 60; with_reducible refine (HT.out _ (RdZ.on HM.out.t HB5.out)).mono ?_; rintro e w6 ⟨rfl, hb⟩; have HB6 := Lib.hid (HB5.out.trans (hb.mono HB5.out.size)); clear hb))
                      go_ret
                      exact ⟨by rw [HX.out]; rfl, HB6.out⟩
                  · skip
                    have HX := Lib.hid ht
                    clear ht
                    go_enter Tryz.func69, Tryz.ntmps69
                    go_wp2_with (first
      | (go_at_call 55; with_reducible refine (HSP.out _ (HG.out.r.below HB.out)).mono ?_; rintro e w1 ⟨rfl, hb⟩; have HB1 := Lib.hid (HB.out.trans (hb.mono HB.out.size)); have V1 := HV.out.below hb (by simp); obtain ⟨a0, a1, a2, a3, a4, a5, a6, a7, a8⟩ := cells9 V1; obtain ⟨-, r1, -, -, -, -⟩ := HAt.out _ (HG.out.r.below HB1.out); clear hb)
      | (go_at_call 121; with_reducible refine (HKN.out _ (HG.out.g.below HB1.out)).mono ?_; rintro e w2 ⟨rfl, hb⟩; have HB2 := Lib.hid (HB1.out.trans (hb.mono HB1.out.size)); have V2 := var_keep V1 hb; obtain ⟨b0, b1, b2, b3, b4, b5, b6, b7, b8⟩ := cells9 V2; clear hb)
      | (go_at_call 65; (first | with_reducible refine (HIA.out _).mono ?_ | with_reducible refine (HIB.out _).mono ?_); rintro e w3 ⟨rfl, rfl⟩)
      | (go_at_call 107; with_reducible refine (HD.out _ (RdP.on HM.out.d HB2.out)).mono ?_; rintro e w4 ⟨rfl, hb⟩; have HB4 := Lib.hid (HB2.out.trans (hb.mono HB2.out.size)); have V4 := var_keep V2 hb; obtain ⟨d0, d1, d2, d3, d4, d5, d6, d7, d8⟩ := cells9 V4; clear hb)
      | (go_at_call 107; with_reducible refine (HE.out _ (RdP.on HM.out.s HB4.out)).mono ?_; rintro e w5 ⟨rfl, hb⟩; have HB5 := Lib.hid (HB4.out.trans (hb.mono HB4.out.size)); have V5 := var_keep V4 hb; obtain ⟨e0, e1, e2, e3, e4, e5, e6, e7, e8⟩ := cells9 V5; clear hb)
      | (go_at_call 60; with_reducible refine (HT.out _ (RdZ.on HM.out.t HB5.out)).mono ?_; rintro e w6 ⟨rfl, hb⟩; have HB6 := Lib.hid (HB5.out.trans (hb.mono HB5.out.size)); clear hb))
                    go_ret
                    exact ⟨by rw [HX.out]; rfl, HB5.out⟩
                · skip
                  have HX := Lib.hid ht
                  clear ht
                  go_enter Tryz.func69, Tryz.ntmps69
                  go_wp2_with (first
      | (go_at_call 55; with_reducible refine (HSP.out _ (HG.out.r.below HB.out)).mono ?_; rintro e w1 ⟨rfl, hb⟩; have HB1 := Lib.hid (HB.out.trans (hb.mono HB.out.size)); have V1 := HV.out.below hb (by simp); obtain ⟨a0, a1, a2, a3, a4, a5, a6, a7, a8⟩ := cells9 V1; obtain ⟨-, r1, -, -, -, -⟩ := HAt.out _ (HG.out.r.below HB1.out); clear hb)
      | (go_at_call 121; with_reducible refine (HKN.out _ (HG.out.g.below HB1.out)).mono ?_; rintro e w2 ⟨rfl, hb⟩; have HB2 := Lib.hid (HB1.out.trans (hb.mono HB1.out.size)); have V2 := var_keep V1 hb; obtain ⟨b0, b1, b2, b3, b4, b5, b6, b7, b8⟩ := cells9 V2; clear hb)
      | (go_at_call 65; (first | with_reducible refine (HIA.out _).mono ?_ | with_reducible refine (HIB.out _).mono ?_); rintro e w3 ⟨rfl, rfl⟩)
      | (go_at_call 107; with_reducible refine (HD.out _ (RdP.on HM.out.d HB2.out)).mono ?_; rintro e w4 ⟨rfl, hb⟩; have HB4 := Lib.hid (HB2.out.trans (hb.mono HB2.out.size)); have V4 := var_keep V2 hb; obtain ⟨d0, d1, d2, d3, d4, d5, d6, d7, d8⟩ := cells9 V4; clear hb)
      | (go_at_call 107; with_reducible refine (HE.out _ (RdP.on HM.out.s HB4.out)).mono ?_; rintro e w5 ⟨rfl, hb⟩; have HB5 := Lib.hid (HB4.out.trans (hb.mono HB4.out.size)); have V5 := var_keep V4 hb; obtain ⟨e0, e1, e2, e3, e4, e5, e6, e7, e8⟩ := cells9 V5; clear hb)
      | (go_at_call 60; with_reducible refine (HT.out _ (RdZ.on HM.out.t HB5.out)).mono ?_; rintro e w6 ⟨rfl, hb⟩; have HB6 := Lib.hid (HB5.out.trans (hb.mono HB5.out.size)); clear hb))
                  go_ret
                  exact ⟨by rw [HX.out]; rfl, HB4.out⟩
              · skip
                have HX := Lib.hid ht
                clear ht
                go_enter Tryz.func69, Tryz.ntmps69
                go_wp2_with (first
      | (go_at_call 55; with_reducible refine (HSP.out _ (HG.out.r.below HB.out)).mono ?_; rintro e w1 ⟨rfl, hb⟩; have HB1 := Lib.hid (HB.out.trans (hb.mono HB.out.size)); have V1 := HV.out.below hb (by simp); obtain ⟨a0, a1, a2, a3, a4, a5, a6, a7, a8⟩ := cells9 V1; obtain ⟨-, r1, -, -, -, -⟩ := HAt.out _ (HG.out.r.below HB1.out); clear hb)
      | (go_at_call 121; with_reducible refine (HKN.out _ (HG.out.g.below HB1.out)).mono ?_; rintro e w2 ⟨rfl, hb⟩; have HB2 := Lib.hid (HB1.out.trans (hb.mono HB1.out.size)); have V2 := var_keep V1 hb; obtain ⟨b0, b1, b2, b3, b4, b5, b6, b7, b8⟩ := cells9 V2; clear hb)
      | (go_at_call 65; (first | with_reducible refine (HIA.out _).mono ?_ | with_reducible refine (HIB.out _).mono ?_); rintro e w3 ⟨rfl, rfl⟩)
      | (go_at_call 107; with_reducible refine (HD.out _ (RdP.on HM.out.d HB2.out)).mono ?_; rintro e w4 ⟨rfl, hb⟩; have HB4 := Lib.hid (HB2.out.trans (hb.mono HB2.out.size)); have V4 := var_keep V2 hb; obtain ⟨d0, d1, d2, d3, d4, d5, d6, d7, d8⟩ := cells9 V4; clear hb)
      | (go_at_call 107; with_reducible refine (HE.out _ (RdP.on HM.out.s HB4.out)).mono ?_; rintro e w5 ⟨rfl, hb⟩; have HB5 := Lib.hid (HB4.out.trans (hb.mono HB4.out.size)); have V5 := var_keep V4 hb; obtain ⟨e0, e1, e2, e3, e4, e5, e6, e7, e8⟩ := cells9 V5; clear hb)
      | (go_at_call 60; with_reducible refine (HT.out _ (RdZ.on HM.out.t HB5.out)).mono ?_; rintro e w6 ⟨rfl, hb⟩; have HB6 := Lib.hid (HB5.out.trans (hb.mono HB5.out.size)); clear hb))
                go_ret
                exact ⟨by rw [HX.out]; rfl, HB2.out⟩
            · skip
              have HX := Lib.hid ht
              clear ht
              go_enter Tryz.func69, Tryz.ntmps69
              go_wp2_with (first
      | (go_at_call 55; with_reducible refine (HSP.out _ (HG.out.r.below HB.out)).mono ?_; rintro e w1 ⟨rfl, hb⟩; have HB1 := Lib.hid (HB.out.trans (hb.mono HB.out.size)); have V1 := HV.out.below hb (by simp); obtain ⟨a0, a1, a2, a3, a4, a5, a6, a7, a8⟩ := cells9 V1; obtain ⟨-, r1, -, -, -, -⟩ := HAt.out _ (HG.out.r.below HB1.out); clear hb)
      | (go_at_call 121; with_reducible refine (HKN.out _ (HG.out.g.below HB1.out)).mono ?_; rintro e w2 ⟨rfl, hb⟩; have HB2 := Lib.hid (HB1.out.trans (hb.mono HB1.out.size)); have V2 := var_keep V1 hb; obtain ⟨b0, b1, b2, b3, b4, b5, b6, b7, b8⟩ := cells9 V2; clear hb)
      | (go_at_call 65; (first | with_reducible refine (HIA.out _).mono ?_ | with_reducible refine (HIB.out _).mono ?_); rintro e w3 ⟨rfl, rfl⟩)
      | (go_at_call 107; with_reducible refine (HD.out _ (RdP.on HM.out.d HB2.out)).mono ?_; rintro e w4 ⟨rfl, hb⟩; have HB4 := Lib.hid (HB2.out.trans (hb.mono HB2.out.size)); have V4 := var_keep V2 hb; obtain ⟨d0, d1, d2, d3, d4, d5, d6, d7, d8⟩ := cells9 V4; clear hb)
      | (go_at_call 107; with_reducible refine (HE.out _ (RdP.on HM.out.s HB4.out)).mono ?_; rintro e w5 ⟨rfl, hb⟩; have HB5 := Lib.hid (HB4.out.trans (hb.mono HB4.out.size)); have V5 := var_keep V4 hb; obtain ⟨e0, e1, e2, e3, e4, e5, e6, e7, e8⟩ := cells9 V5; clear hb)
      | (go_at_call 60; with_reducible refine (HT.out _ (RdZ.on HM.out.t HB5.out)).mono ?_; rintro e w6 ⟨rfl, hb⟩; have HB6 := Lib.hid (HB5.out.trans (hb.mono HB5.out.size)); clear hb))
              go_ret
              exact ⟨by rw [HX.out]; rfl, HB2.out⟩
      · skip
        have HX := Lib.hid ht
        clear ht
        go_enter Tryz.func69, Tryz.ntmps69
        go_wp2_with (first
      | (go_at_call 55; with_reducible refine (HSP.out _ (HG.out.r.below HB.out)).mono ?_; rintro e w1 ⟨rfl, hb⟩; have HB1 := Lib.hid (HB.out.trans (hb.mono HB.out.size)); have V1 := HV.out.below hb (by simp); obtain ⟨a0, a1, a2, a3, a4, a5, a6, a7, a8⟩ := cells9 V1; obtain ⟨-, r1, -, -, -, -⟩ := HAt.out _ (HG.out.r.below HB1.out); clear hb)
      | (go_at_call 121; with_reducible refine (HKN.out _ (HG.out.g.below HB1.out)).mono ?_; rintro e w2 ⟨rfl, hb⟩; have HB2 := Lib.hid (HB1.out.trans (hb.mono HB1.out.size)); have V2 := var_keep V1 hb; obtain ⟨b0, b1, b2, b3, b4, b5, b6, b7, b8⟩ := cells9 V2; clear hb)
      | (go_at_call 65; (first | with_reducible refine (HIA.out _).mono ?_ | with_reducible refine (HIB.out _).mono ?_); rintro e w3 ⟨rfl, rfl⟩)
      | (go_at_call 107; with_reducible refine (HD.out _ (RdP.on HM.out.d HB2.out)).mono ?_; rintro e w4 ⟨rfl, hb⟩; have HB4 := Lib.hid (HB2.out.trans (hb.mono HB2.out.size)); have V4 := var_keep V2 hb; obtain ⟨d0, d1, d2, d3, d4, d5, d6, d7, d8⟩ := cells9 V4; clear hb)
      | (go_at_call 107; with_reducible refine (HE.out _ (RdP.on HM.out.s HB4.out)).mono ?_; rintro e w5 ⟨rfl, hb⟩; have HB5 := Lib.hid (HB4.out.trans (hb.mono HB4.out.size)); have V5 := var_keep V4 hb; obtain ⟨e0, e1, e2, e3, e4, e5, e6, e7, e8⟩ := cells9 V5; clear hb)
      | (go_at_call 60; with_reducible refine (HT.out _ (RdZ.on HM.out.t HB5.out)).mono ?_; rintro e w6 ⟨rfl, hb⟩; have HB6 := Lib.hid (HB5.out.trans (hb.mono HB5.out.size)); clear hb))
        go_ret
        exact ⟨by rw [HX.out]; rfl, HB2.out⟩
end Go.Proofs.YtadnfekogmjieaaGreatDoor
