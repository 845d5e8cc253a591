/-
  Layer 51, the reference: ints, ps: lists compared.
  Layer 51, the reference: Same. (Printed by gen_mr2.py and compress.py.)
-/
import Derived.Test.YtadnfekogmjieaaGreatDoorFGL
import Derived.Test.YtadnfekogmjieaaGreatDoorFTk
import Derived.Deep.RegionHeld3
set_option linter.unusedVariables false
set_option linter.unusedSimpArgs false
namespace Go.Proofs.YtadnfekogmjieaaGreatDoor
open Go.RowKit
open Mc (Pl Mi Mf)
set_option maxHeartbeats 2000000 in
set_option maxRecDepth 100000 in
theorem rints_any (S T : Nat → Prop) (A B : Option Addr) (c d : Nat) (xs ys : List Int) (w : World) (ha : RdZ w S A xs) (hb : RdZ w T B ys) (hl : xs.length ≤ 1000000) :
    Calls Tryz.prog 46 #[.slice A xs.length c, .slice B ys.length d] w fun e w' => e = .returned (.bool (decide (xs = ys))) ∧ Below w.heap.size w w' := by
  by_cases h : xs.length = ys.length
  · obtain ⟨n, hn⟩ : ∃ n, ys.length = n := ⟨_, rfl⟩
    rw [h, hn]
    have han : xs.length = n := h.trans hn
    go_enter Tryz.func46, Tryz.ntmps46
    go_wp2
    go_loopw [5] (fun iv wr => ∃ k : Nat, k ≤ n ∧ iv = .int .i64 (k : Int) ∧ Hid (decide (xs = ys) = decide (xs.drop k = ys.drop k)) ∧ Below w.heap.size w wr) (fun iv _ => n - (intOf iv).toNat)
    case atStart => exact ⟨0, by omega, rfl, by simp [Hid], Below.refl _ _⟩
    case round =>
      obtain ⟨k, hk, rfl, HR, hB⟩ := hrel
      by_cases hkl : k < n
      · obtain ⟨g, o, rfl, -, -, f0'⟩ := (RdZ.on ha hB).get (show k < xs.length by omega)
        obtain ⟨g2, o2, rfl, -, -, f1'⟩ := (RdZ.on hb hB).get (show k < ys.length by omega)
        have f0 : wr.cell? ⟨g, o + k, none⟩ = some (.int .i64 xs[k]) := by simpa [ZAt] using f0'
        have f1 : wr.cell? ⟨g2, o2 + k, none⟩ = some (.int .i64 ys[k]) := by simpa [ZAt] using f1'
        obtain ⟨t, ht⟩ : ∃ t, xs[k] = t := ⟨_, rfl⟩
        obtain ⟨u, hu⟩ : ∃ u, ys[k] = u := ⟨_, rfl⟩
        rw [ht] at f0
        rw [hu] at f1
        have hd := drop_cons2 (by omega) ht
        have hd' := drop_cons2 (by omega) hu
        have hk0 : (0 : Int) ≤ (k : Int) := Int.natCast_nonneg _
        have hk1 : (k : Int) < (n : Int) := by omega
        clear f0' f1'
        have HBW := Lib.hid hB
        clear hB
        rcases hv : (t == u) with _ | _
        · have hf : Hid (decide (xs = ys) = false) := by
            unfold Hid
            rw [HR.out, hd, hd']
            simp at hv ⊢
            intro e; exact absurd e hv
          have hv2 : (t != u) = true := by simp [bne, hv]
          clear ht hu hd hd'
          go_wp2
          go_region
          go_wp2
          go_ret
          exact ⟨by rw [hf.out]; rfl, HBW.out.trans ((below_dr _).mono HBW.out.size)⟩
        · have hf : Hid (decide (xs = ys) = decide (xs.drop (k + 1) = ys.drop (k + 1))) := by
            unfold Hid
            rw [HR.out, hd, hd']
            simp at hv
            simp [hv]
          have hv2 : (t != u) = false := by simp [bne, hv]
          clear ht hu hd hd'
          go_wp2
          go_region
          go_wp2
          go_roundw
          case rel => exact ⟨k + 1, by omega, by go_num, hf, HBW.out.trans ((below_dr _).mono HBW.out.size)⟩
          case measure => simp [intOf]; omega
      · have hf : Hid (decide (xs = ys) = true) := by unfold Hid; rw [HR.out, List.drop_of_length_le (by omega), List.drop_of_length_le (by omega)]; simp
        have hk1 : ¬ (k : Int) < (n : Int) := by omega
        have HBW := Lib.hid hB
        clear hB
        go_wp2
        go_ret
        exact ⟨by rw [hf.out]; rfl, HBW.out⟩
  · have hf : Hid (decide (xs = ys) = false) := by unfold Hid; simp; intro e; exact h (by rw [e])
    have g1 : ((xs.length : Int) == (ys.length : Int)) = false := by simp; omega
    have g2 : ((xs.length : Int) != (ys.length : Int)) = true := by simp [bne, g1]
    go_enter Tryz.func46, Tryz.ntmps46
    go_wp2
    go_ret
    exact ⟨by rw [hf.out]; rfl, Below.refl _ _⟩
set_option maxHeartbeats 2000000 in
set_option maxRecDepth 100000 in
theorem rps_any (S T : Nat → Prop) (A B : Option Addr) (c d : Nat) (xs ys : List Pl) (w : World) (ha : RdP w S A xs) (hb : RdP w T B ys) (hl : xs.length ≤ 1000000) :
    Calls Tryz.prog 45 #[.slice A xs.length c, .slice B ys.length d] w fun e w' => e = .returned (.bool (decide (xs = ys))) ∧ Below w.heap.size w w' := by
  by_cases h : xs.length = ys.length
  · obtain ⟨n, hn⟩ : ∃ n, ys.length = n := ⟨_, rfl⟩
    rw [h, hn]
    have han : xs.length = n := h.trans hn
    go_enter Tryz.func45, Tryz.ntmps45
    go_wp2
    go_loopw [5] (fun iv wr => ∃ k : Nat, k ≤ n ∧ iv = .int .i64 (k : Int) ∧ Hid (decide (xs = ys) = decide (xs.drop k = ys.drop k)) ∧ Below w.heap.size w wr) (fun iv _ => n - (intOf iv).toNat)
    case atStart => exact ⟨0, by omega, rfl, by simp [Hid], Below.refl _ _⟩
    case round =>
      obtain ⟨k, hk, rfl, HR, hB⟩ := hrel
      by_cases hkl : k < n
      · obtain ⟨g, o, rfl, -, -, f0, f1⟩ := (RdP.on ha hB).get (show k < xs.length by omega)
        obtain ⟨g2, o2, rfl, -, -, f2, f3⟩ := (RdP.on hb hB).get (show k < ys.length by omega)
        obtain ⟨t, ht⟩ : ∃ t, xs[k] = t := ⟨_, rfl⟩
        obtain ⟨u, hu⟩ : ∃ u, ys[k] = u := ⟨_, rfl⟩
        rw [ht] at f0 f1
        rw [hu] at f2 f3
        have hd := drop_cons2 (by omega) ht
        have hd' := drop_cons2 (by omega) hu
        have hk0 : (0 : Int) ≤ (k : Int) := Int.natCast_nonneg _
        have hk1 : (k : Int) < (n : Int) := by omega
        have HBW := Lib.hid hB
        clear hB
        by_cases e1 : t.slot = u.slot
        case neg =>
          have hne : t ≠ u := fun e => e1 (by rw [e])
          have hf : Hid (decide (xs = ys) = false) := by
            unfold Hid
            rw [HR.out, hd, hd']
            simp only [List.cons.injEq, decide_eq_false_iff_not]
            exact fun e => hne e.1
          clear ht hu hd hd' hne
          go_wp2
          go_region
          go_wp2
          go_ret
          exact ⟨by rw [hf.out]; rfl, HBW.out.trans ((below_dr _).mono HBW.out.size)⟩
        by_cases e2 : t.n = u.n
        case neg =>
          have hne : t ≠ u := fun e => e2 (by rw [e])
          have hf : Hid (decide (xs = ys) = false) := by
            unfold Hid
            rw [HR.out, hd, hd']
            simp only [List.cons.injEq, decide_eq_false_iff_not]
            exact fun e => hne e.1
          clear ht hu hd hd' hne
          go_wp2
          go_region
          go_wp2
          go_ret
          exact ⟨by rw [hf.out]; rfl, HBW.out.trans ((below_dr _).mono HBW.out.size)⟩
        have hf : Hid (decide (xs = ys) = decide (xs.drop (k + 1) = ys.drop (k + 1))) := by
          have heq : t = u := by
            obtain ⟨t1, t2⟩ := t
            obtain ⟨u1, u2⟩ := u
            dsimp only at e1 e2
            rw [e1, e2]
          unfold Hid
          rw [HR.out, hd, hd', heq]
          simp
        clear ht hu hd hd'
        go_wp2
        go_region
        go_wp2
        go_roundw
        case rel => exact ⟨k + 1, by omega, by go_num, hf, HBW.out.trans ((below_dr _).mono HBW.out.size)⟩
        case measure => simp [intOf]; omega
      · have hf : Hid (decide (xs = ys) = true) := by unfold Hid; rw [HR.out, List.drop_of_length_le (by omega), List.drop_of_length_le (by omega)]; simp
        have hk1 : ¬ (k : Int) < (n : Int) := by omega
        have HBW := Lib.hid hB
        clear hB
        go_wp2
        go_ret
        exact ⟨by rw [hf.out]; rfl, HBW.out⟩
  · have hf : Hid (decide (xs = ys) = false) := by unfold Hid; simp; intro e; exact h (by rw [e])
    have g1 : ((xs.length : Int) == (ys.length : Int)) = false := by simp; omega
    have g2 : ((xs.length : Int) != (ys.length : Int)) = true := by simp [bne, g1]
    go_enter Tryz.func45, Tryz.ntmps45
    go_wp2
    go_ret
    exact ⟨by rw [hf.out]; rfl, Below.refl _ _⟩
end Go.Proofs.YtadnfekogmjieaaGreatDoor
set_option linter.unusedVariables false
set_option linter.unusedSimpArgs false
namespace Go.Proofs.YtadnfekogmjieaaGreatDoor
open Go.RowKit
open Mc (Pl Mi Mf)
set_option maxHeartbeats 16000000 in
set_option maxRecDepth 100000 in
theorem rsame_mf_any (x y : Mf) (hp : x.ps.length ≤ 1000) (hr : x.rs.length ≤ 1000) (hl : x.code.length ≤ 1000000) (hx : ∀ z ∈ x.code, z.d.length ≤ 1000000 ∧ z.s.length ≤ 1000000 ∧ z.tos.length ≤ 1000000) (S S' : Nat → Prop) (xP : Option Addr) (xc1 : Nat) (xR : Option Addr) (xc2 : Nat) (xC : Option Addr) (xc3 : Nat) (yP : Option Addr) (yc1 : Nat) (yR : Option Addr) (yc2 : Nat) (yC : Option Addr) (yc3 : Nat) (w : World) (h : MfAt S w x xP xR xC) (h' : MfAt S' w y yP yR yC) :
    Calls Tryz.prog 17 #[.agg (mfV x xP xc1 xR xc2 xC xc3), .agg (mfV y yP yc1 yR yc2 yC yc3)] w fun e w' => e = .returned (.bool (decide (x = y))) ∧ Below w.heap.size w w' := by
  rw [← Mc.mfEq_iff]
  have HT := Lib.hid (fun W (hb : Below w.heap.size w W) => refSame_any xP xR yP yR xc1 xc2 yc1 yc2 x.ps x.rs y.ps y.rs W (RdZ.on h.ps hb).rds.rdI (RdZ.on h.rs hb).rds.rdI (RdZ.on h'.ps hb).rds.rdI (RdZ.on h'.rs hb).rds.rdI (by omega) (by omega))
  have H1 := Lib.hid (fun W (hb : Below w.heap.size w W) => RdM.on h.code hb)
  have H2 := Lib.hid (fun W (hb : Below w.heap.size w W) => RdM.on h'.code hb)
  have HOK := Lib.hid hx
  obtain ⟨ty, hty⟩ : ∃ v, (decide (x.ps = y.ps) && decide (x.rs = y.rs)) = v := ⟨_, rfl⟩
  obtain ⟨R, hR⟩ : ∃ v, decide (x.code = y.code) = v := ⟨_, rfl⟩
  rw [hty] at HT ⊢
  rw [hR]
  clear hty hp hr hx h h'
  obtain ⟨xps, xrs, xslots, xcode⟩ := x
  obtain ⟨yps, yrs, yslots, ycode⟩ := y
  unfold mfV
  dsimp only at *
  have hb1 := (Below.refl w.heap.size w).alloc (Nat.le_refl _) (.cells #[.slice xP xps.length xc1, .slice xR xrs.length xc2, .int .i64 xslots, .slice xC xcode.length xc3] 39)
  have v1 := Var.new w #[.slice xP xps.length xc1, .slice xR xrs.length xc2, .int .i64 xslots, .slice xC xcode.length xc3] 39
  have HB := Lib.hid (hb1.alloc hb1.size (.cells #[.slice yP yps.length yc1, .slice yR yrs.length yc2, .int .i64 yslots, .slice yC ycode.length yc3] 39))
  have HV1 := Lib.hid (v1.alloc (.cells #[.slice yP yps.length yc1, .slice yR yrs.length yc2, .int .i64 yslots, .slice yC ycode.length yc3] 39))
  have HV2 := Lib.hid (Var.newE (w.alloc (.cells #[.slice xP xps.length xc1, .slice xR xrs.length xc2, .int .i64 xslots, .slice xC xcode.length xc3] 39)) #[.slice yP yps.length yc1, .slice yR yrs.length yc2, .int .i64 yslots, .slice yC ycode.length yc3] 39 (K := w.heap.size + 1) (by simp))
  clear hb1 v1
  rcases ty with _ | _
  · skip
    go_enter Tryz.func17, Tryz.ntmps17
    go_wp2_with (go_at_call 44; with_reducible refine (HT.out _ HB.out).mono ?_; rintro e w0 ⟨rfl, hb⟩; have HB0 := Lib.hid (HB.out.trans (hb.mono HB.out.size)); have V1 := var_keep HV1.out hb; have V2 := var_keep HV2.out hb; have HW1 := Lib.hid V1; have HW2 := Lib.hid V2; obtain ⟨⟨a0, a1, a2, a3⟩, -⟩ := cells4' V1; obtain ⟨⟨b0, b1, b2, b3⟩, -⟩ := cells4' V2; clear hb V1 V2)
    go_ret
    exact ⟨by simp, HB0.out⟩
  rcases k : (xslots == yslots) with _ | _
  · rw [show decide (xslots = yslots) = false by (have h := k; simp at h ⊢; exact h)]
    have k2 : (xslots != yslots) = true := by simp [bne, k]
    go_enter Tryz.func17, Tryz.ntmps17
    go_wp2_with (go_at_call 44; with_reducible refine (HT.out _ HB.out).mono ?_; rintro e w0 ⟨rfl, hb⟩; have HB0 := Lib.hid (HB.out.trans (hb.mono HB.out.size)); have V1 := var_keep HV1.out hb; have V2 := var_keep HV2.out hb; have HW1 := Lib.hid V1; have HW2 := Lib.hid V2; obtain ⟨⟨a0, a1, a2, a3⟩, -⟩ := cells4' V1; obtain ⟨⟨b0, b1, b2, b3⟩, -⟩ := cells4' V2; clear hb V1 V2)
    go_ret
    exact ⟨by simp, HB0.out⟩
  have k2 : (xslots != yslots) = false := by simp [bne, k]
  rw [show decide (xslots = yslots) = true by (have h := k; simp at h ⊢; exact h)]
  by_cases hlen : xcode.length = ycode.length
  case neg =>
    have HF : Hid (R = false) := Lib.hid (by rw [← hR]; simp; intro e; exact hlen (by rw [e]))
    have g1 : ((xcode.length : Int) == (ycode.length : Int)) = false := by simp; omega
    have g2 : ((xcode.length : Int) != (ycode.length : Int)) = true := by simp [bne, g1]
    clear hR
    go_enter Tryz.func17, Tryz.ntmps17
    go_wp2_with (go_at_call 44; with_reducible refine (HT.out _ HB.out).mono ?_; rintro e w0 ⟨rfl, hb⟩; have HB0 := Lib.hid (HB.out.trans (hb.mono HB.out.size)); have V1 := var_keep HV1.out hb; have V2 := var_keep HV2.out hb; have HW1 := Lib.hid V1; have HW2 := Lib.hid V2; obtain ⟨⟨a0, a1, a2, a3⟩, -⟩ := cells4' V1; obtain ⟨⟨b0, b1, b2, b3⟩, -⟩ := cells4' V2; clear hb V1 V2)
    go_ret
    exact ⟨by rw [HF.out]; simp, HB0.out⟩
  obtain ⟨n, hn⟩ : ∃ n, ycode.length = n := ⟨_, rfl⟩
  have han : xcode.length = n := hlen.trans hn
  rw [han] at HV1 HV2 HB
  rw [hn] at HV1 HV2 HB
  rw [han, hn]
  have HR0 : Hid (decide (xcode.drop 0 = ycode.drop 0) = R) := Lib.hid hR
  clear hR hlen
  go_enter Tryz.func17, Tryz.ntmps17
  go_wp2_with (go_at_call 44; with_reducible refine (HT.out _ HB.out).mono ?_; rintro e w0 ⟨rfl, hb⟩; have HB0 := Lib.hid (HB.out.trans (hb.mono HB.out.size)); have V1 := var_keep HV1.out hb; have V2 := var_keep HV2.out hb; have HW1 := Lib.hid V1; have HW2 := Lib.hid V2; obtain ⟨⟨a0, a1, a2, a3⟩, -⟩ := cells4' V1; obtain ⟨⟨b0, b1, b2, b3⟩, -⟩ := cells4' V2; clear hb V1 V2)
  go_loopw [5] (fun iv wr => ∃ (k : Nat), iv = .int .i64 (k : Int) ∧ k ≤ n ∧ Hid (decide (xcode.drop k = ycode.drop k) = R) ∧ Hid (Below w.heap.size w wr) ∧ Hid (Var wr w.heap.size #[.slice xP xps.length xc1, .slice xR xrs.length xc2, .int .i64 xslots, .slice xC n xc3] 39) ∧ Hid (Var wr (w.heap.size + 1) #[.slice yP yps.length yc1, .slice yR yrs.length yc2, .int .i64 yslots, .slice yC n yc3] 39)) (fun iv _ => n - (intOf iv).toNat)
  case atStart => exact ⟨0, rfl, by omega, HR0, HB0, HW1, HW2⟩
  case round =>
    clear HR0 HB0 HW1 HW2 a0 a1 a2 a3 b0 b1 b2 b3 HB HV1 HV2 HT
    obtain ⟨k, rfl, hk, HR, HB, HV1, HV2⟩ := hrel
    obtain ⟨⟨a0, a1, a2, a3⟩, -⟩ := cells4' HV1.out
    obtain ⟨⟨b0, b1, b2, b3⟩, -⟩ := cells4' HV2.out
    have la1 := HV1.out.lt
    have lb1 := HV2.out.lt
    by_cases hkl : k < n
    · obtain ⟨g, o, rfl, -, hga, hat⟩ := (H1.out _ HB.out).get (show k < xcode.length by omega)
      obtain ⟨g2, o2, rfl, -, hgb, hat2⟩ := (H2.out _ HB.out).get (show k < ycode.length by omega)
      have hok := HOK.out xcode[k] (List.getElem_mem _)
      have hd : xcode.drop k = xcode[k] :: xcode.drop (k + 1) := List.drop_eq_getElem_cons (by omega)
      have hd2 : ycode.drop k = ycode[k] :: ycode.drop (k + 1) := List.drop_eq_getElem_cons (by omega)
      have hR := HR.out
      have hsplit : decide (xcode.drop k = ycode.drop k) = (Mc.miEq xcode[k] ycode[k] && decide (xcode.drop (k + 1) = ycode.drop (k + 1))) := by
        rw [hd, hd2, Mc.miEq_iff]
        simp only [List.cons.injEq, Bool.decide_and]
      rw [hsplit] at hR
      obtain ⟨x, hxx⟩ : ∃ x, xcode[k] = x := ⟨_, rfl⟩
      obtain ⟨y, hyy⟩ : ∃ y, ycode[k] = y := ⟨_, rfl⟩
      rw [hxx] at hat hok hR
      rw [hyy] at hat2 hR
      clear hxx hyy hd hd2 HR hsplit
      obtain ⟨uD, u1, uE, u2, uT, u3, ⟨c0, c1, c2, c3, c4, c5, c6, c7, c8⟩, hru⟩ := hat.cells
      obtain ⟨vD, v1, vE, v2, vT, v3, ⟨e0, e1, e2, e3, e4, e5, e6, e7, e8⟩, hrv⟩ := hat2.cells
      clear hat hat2
      obtain ⟨uk, uo, ua, ub, un, ud, us, utos, utrap⟩ := x
      obtain ⟨vk, vo, va, vb, vn, vd, vs, vtos, vtrap⟩ := y
      unfold Mc.miEq at hR
      dsimp only at c0 c1 c2 c3 c4 c5 c6 c7 c8 e0 e1 e2 e3 e4 e5 e6 e7 e8 hru hrv hok hR
      obtain ⟨ok1, ok2, ok3⟩ := hok
      have x0 : (k : Int) < (n : Int) := by omega
      have x2 : (0 : Int) ≤ (k : Int) := by omega
      go_upto_region 6 with fail
      go_cut [6, 7] from 30 to 110 (fun s6 s7 wx => ∃ K6 K7, s6 = .pointer (some ⟨K6, 0, none⟩) ∧ s7 = .pointer (some ⟨K7, 0, none⟩) ∧ Var wx K6 #[.int .i64 uk, .int .i64 uo, .int .i64 ua, .int .i64 ub, .int .u64 (un : Int), .slice uD ud.length u1, .slice uE us.length u2, .slice uT utos.length u3, .int .i64 utrap] 61 ∧ Var wx K7 #[.int .i64 vk, .int .i64 vo, .int .i64 va, .int .i64 vb, .int .u64 (vn : Int), .slice vD vd.length v1, .slice vE vs.length v2, .slice vT vtos.length v3, .int .i64 vtrap] 61 ∧ Below wr.heap.size wr wx)
      case first =>
        have SS : (fun w' => w'.cell? ⟨g, o + k * 9, none⟩ = some (.int .i64 uk) ∧ w'.cell? ⟨g, o + k * 9 + 1, none⟩ = some (.int .i64 uo) ∧ w'.cell? ⟨g, o + k * 9 + 2, none⟩ = some (.int .i64 ua) ∧ w'.cell? ⟨g, o + k * 9 + 3, none⟩ = some (.int .i64 ub) ∧ w'.cell? ⟨g, o + k * 9 + 4, none⟩ = some (.int .u64 (un : Int)) ∧ w'.cell? ⟨g, o + k * 9 + 5, none⟩ = some (.slice uD ud.length u1) ∧ w'.cell? ⟨g, o + k * 9 + 6, none⟩ = some (.slice uE us.length u2) ∧ w'.cell? ⟨g, o + k * 9 + 7, none⟩ = some (.slice uT utos.length u3) ∧ w'.cell? ⟨g, o + k * 9 + 8, none⟩ = some (.int .i64 utrap) ∧ w'.cell? ⟨g2, o2 + k * 9, none⟩ = some (.int .i64 vk) ∧ w'.cell? ⟨g2, o2 + k * 9 + 1, none⟩ = some (.int .i64 vo) ∧ w'.cell? ⟨g2, o2 + k * 9 + 2, none⟩ = some (.int .i64 va) ∧ w'.cell? ⟨g2, o2 + k * 9 + 3, none⟩ = some (.int .i64 vb) ∧ w'.cell? ⟨g2, o2 + k * 9 + 4, none⟩ = some (.int .u64 (vn : Int)) ∧ w'.cell? ⟨g2, o2 + k * 9 + 5, none⟩ = some (.slice vD vd.length v1) ∧ w'.cell? ⟨g2, o2 + k * 9 + 6, none⟩ = some (.slice vE vs.length v2) ∧ w'.cell? ⟨g2, o2 + k * 9 + 7, none⟩ = some (.slice vT vtos.length v3) ∧ w'.cell? ⟨g2, o2 + k * 9 + 8, none⟩ = some (.int .i64 vtrap) ∧ w'.cell? ⟨w.heap.size, 3, none⟩ = some (.slice (some ⟨g, o, none⟩) n xc3) ∧ w'.cell? ⟨w.heap.size + 1, 3, none⟩ = some (.slice (some ⟨g2, o2, none⟩) n yc3)) (World.drew wr) := ⟨c0, c1, c2, c3, c4, c5, c6, c7, c8, e0, e1, e2, e3, e4, e5, e6, e7, e8, a3, b3⟩
        dsimp only at SS
        refine wp_region_held_drew (S := (fun w' => w'.cell? ⟨g, o + k * 9, none⟩ = some (.int .i64 uk) ∧ w'.cell? ⟨g, o + k * 9 + 1, none⟩ = some (.int .i64 uo) ∧ w'.cell? ⟨g, o + k * 9 + 2, none⟩ = some (.int .i64 ua) ∧ w'.cell? ⟨g, o + k * 9 + 3, none⟩ = some (.int .i64 ub) ∧ w'.cell? ⟨g, o + k * 9 + 4, none⟩ = some (.int .u64 (un : Int)) ∧ w'.cell? ⟨g, o + k * 9 + 5, none⟩ = some (.slice uD ud.length u1) ∧ w'.cell? ⟨g, o + k * 9 + 6, none⟩ = some (.slice uE us.length u2) ∧ w'.cell? ⟨g, o + k * 9 + 7, none⟩ = some (.slice uT utos.length u3) ∧ w'.cell? ⟨g, o + k * 9 + 8, none⟩ = some (.int .i64 utrap) ∧ w'.cell? ⟨g2, o2 + k * 9, none⟩ = some (.int .i64 vk) ∧ w'.cell? ⟨g2, o2 + k * 9 + 1, none⟩ = some (.int .i64 vo) ∧ w'.cell? ⟨g2, o2 + k * 9 + 2, none⟩ = some (.int .i64 va) ∧ w'.cell? ⟨g2, o2 + k * 9 + 3, none⟩ = some (.int .i64 vb) ∧ w'.cell? ⟨g2, o2 + k * 9 + 4, none⟩ = some (.int .u64 (vn : Int)) ∧ w'.cell? ⟨g2, o2 + k * 9 + 5, none⟩ = some (.slice vD vd.length v1) ∧ w'.cell? ⟨g2, o2 + k * 9 + 6, none⟩ = some (.slice vE vs.length v2) ∧ w'.cell? ⟨g2, o2 + k * 9 + 7, none⟩ = some (.slice vT vtos.length v3) ∧ w'.cell? ⟨g2, o2 + k * 9 + 8, none⟩ = some (.int .i64 vtrap) ∧ w'.cell? ⟨w.heap.size, 3, none⟩ = some (.slice (some ⟨g, o, none⟩) n xc3) ∧ w'.cell? ⟨w.heap.size + 1, 3, none⟩ = some (.slice (some ⟨g2, o2, none⟩) n yc3))) (by kernel_rfl) ?_ (fun hHeld0 => ?_)
        · first | assumption | go_keep
        refine tk (i := 0) (oi := ⟨some 37, .fieldAddr 39 (.tmp 2) 2, 0, "ref.go:514", #[], none⟩) rfl ?_; (try simp only [Act.put, List.setIfInBounds_toArray, List.set_cons_succ, List.set_cons_zero])
        refine tk (i := 1) (oi := ⟨some 38, .load 37 (.tmp 37), 37, "ref.go:514", #[⟨0, .data⟩], none⟩) rfl ?_; (try simp only [Act.put, List.setIfInBounds_toArray, List.set_cons_succ, List.set_cons_zero])
        refine tk (i := 2) (oi := ⟨some 39, .move (.tmp 5), 3, "ref.go:514", #[], none⟩) rfl ?_; (try simp only [Act.put, List.setIfInBounds_toArray, List.set_cons_succ, List.set_cons_zero])
        refine tk (i := 3) (oi := ⟨some 40, .indexAddr 37 (.tmp 38) (.tmp 39), 0, "ref.go:514", #[⟨1, .data⟩, ⟨2, .data⟩], none⟩) rfl ?_; (try simp only [Act.put, List.setIfInBounds_toArray, List.set_cons_succ, List.set_cons_zero])
        refine tk (i := 4) (oi := ⟨some 41, .load 61 (.tmp 40), 61, "ref.go:514", #[⟨3, .data⟩], none⟩) rfl ?_; (try simp only [Act.put, List.setIfInBounds_toArray, List.set_cons_succ, List.set_cons_zero])
        refine tk (i := 5) (oi := ⟨some 42, .fieldAddr 39 (.tmp 3) 2, 0, "ref.go:514", #[{ on := 12, ground := .gcOnly Go.Departure.lateStores }], none⟩) rfl ?_; (try simp only [Act.put, List.setIfInBounds_toArray, List.set_cons_succ, List.set_cons_zero])
        refine tk (i := 6) (oi := ⟨some 43, .load 37 (.tmp 42), 37, "ref.go:514", #[⟨5, .data⟩, { on := 12, ground := .gcOnly Go.Departure.lateStores }], none⟩) rfl ?_; (try simp only [Act.put, List.setIfInBounds_toArray, List.set_cons_succ, List.set_cons_zero])
        refine tk (i := 7) (oi := ⟨some 44, .move (.tmp 5), 3, "ref.go:514", #[{ on := 12, ground := .gcOnly Go.Departure.lateStores }], none⟩) rfl ?_; (try simp only [Act.put, List.setIfInBounds_toArray, List.set_cons_succ, List.set_cons_zero])
        refine tk (i := 8) (oi := ⟨some 45, .indexAddr 37 (.tmp 43) (.tmp 44), 0, "ref.go:514", #[⟨6, .data⟩, ⟨7, .data⟩, { on := 12, ground := .gcOnly Go.Departure.lateStores }], none⟩) rfl ?_; (try simp only [Act.put, List.setIfInBounds_toArray, List.set_cons_succ, List.set_cons_zero])
        refine tk (i := 9) (oi := ⟨some 46, .load 61 (.tmp 45), 61, "ref.go:514", #[⟨8, .data⟩, { on := 12, ground := .gcOnly Go.Departure.lateStores }], none⟩) rfl ?_; (try simp only [Act.put, List.setIfInBounds_toArray, List.set_cons_succ, List.set_cons_zero])
        refine wpAnyH_ready (rs := [10, 11]) (by kernel_rfl) (by simp) ?_
        refine (AllReadyH.cons (o := ⟨some 6, .alloc 61, 0, "ref.go:514", #[], none⟩) rfl (fun K hK => ?_) (AllReadyH.cons (o := ⟨some 7, .alloc 61, 0, "ref.go:514", #[], none⟩) rfl (fun K hK => ?_) AllReadyH.nil))
        · skip
          go_simp
          skip
          (try dsimp only)
          refine hK.out _ _ ?_ (fun hHeld1 => ?_)
          · first | trivial | ((try dsimp only); first | assumption | trivial | go_keep)
          clear hK K hHeld0
          (try simp only [Act.put, List.setIfInBounds_toArray, List.set_cons_succ, List.set_cons_zero])
          refine wpAnyH_ready (rs := [11]) (by kernel_rfl) (by simp) ?_
          refine (AllReadyH.cons (o := ⟨some 7, .alloc 61, 0, "ref.go:514", #[], none⟩) rfl (fun K hK => ?_) AllReadyH.nil)
          go_simp
          skip
          (try dsimp only)
          refine hK.out _ _ ?_ (fun hHeld2 => ?_)
          · first | trivial | ((try dsimp only); first | assumption | trivial | go_keep)
          clear hK K hHeld1
          (try simp only [Act.put, List.setIfInBounds_toArray, List.set_cons_succ, List.set_cons_zero])
          refine wpAnyH_ready (rs := [12]) (by kernel_rfl) (by simp) ?_
          refine (AllReadyH.cons (o := ⟨none, .store 61 (.tmp 6) (.tmp 41), 0, "ref.go:514", #[⟨10, .data⟩, ⟨4, .data⟩, ⟨0, .phase⟩, ⟨1, .phase⟩, ⟨2, .phase⟩, ⟨3, .phase⟩, ⟨4, .phase⟩, { on := 5, ground := .textOnly Go.Departure.lateStores }, { on := 6, ground := .textOnly Go.Departure.lateStores }, { on := 7, ground := .textOnly Go.Departure.lateStores }, { on := 8, ground := .textOnly Go.Departure.lateStores }, { on := 9, ground := .textOnly Go.Departure.lateStores }, ⟨10, .phase⟩, ⟨11, .phase⟩], none⟩) rfl (fun K hK => ?_) AllReadyH.nil)
          go_simp
          skip
          (try dsimp only)
          refine hK.out _ _ ?_ (fun hHeld3 => ?_)
          · first | trivial | ((try dsimp only); first | assumption | trivial | go_keep)
          clear hK K hHeld2
          (try simp only [Act.put, List.setIfInBounds_toArray, List.set_cons_succ, List.set_cons_zero])
          refine wpAnyH_ready (rs := [13]) (by kernel_rfl) (by simp) ?_
          refine (AllReadyH.cons (o := ⟨none, .store 61 (.tmp 7) (.tmp 46), 0, "ref.go:514", #[⟨11, .data⟩, ⟨9, .data⟩, ⟨12, .chain⟩, ⟨0, .phase⟩, ⟨1, .phase⟩, ⟨2, .phase⟩, ⟨3, .phase⟩, ⟨4, .phase⟩, ⟨5, .phase⟩, ⟨6, .phase⟩, ⟨7, .phase⟩, ⟨8, .phase⟩, ⟨9, .phase⟩, ⟨10, .phase⟩, ⟨11, .phase⟩, ⟨12, .phase⟩], none⟩) rfl (fun K hK => ?_) AllReadyH.nil)
          go_simp
          skip
          (try dsimp only)
          refine hK.out _ _ ?_ (fun hHeld4 => ?_)
          · first | trivial | ((try dsimp only); first | assumption | trivial | go_keep)
          clear hK K hHeld3
          (try simp only [Act.put, List.setIfInBounds_toArray, List.set_cons_succ, List.set_cons_zero])
          refine wpAnyH_done (by kernel_rfl) ?_ _
          go_wp2_with fail
          go_meet
          exact ⟨_, _, rfl, rfl, (Var.new wr #[.int .i64 uk, .int .i64 uo, .int .i64 ua, .int .i64 ub, .int .u64 (un : Int), .slice uD ud.length u1, .slice uE us.length u2, .slice uT utos.length u3, .int .i64 utrap] 61).alloc _, Var.newE (wr.alloc (.cells #[.int .i64 uk, .int .i64 uo, .int .i64 ua, .int .i64 ub, .int .u64 (un : Int), .slice uD ud.length u1, .slice uE us.length u2, .slice uT utos.length u3, .int .i64 utrap] 61)) #[.int .i64 vk, .int .i64 vo, .int .i64 va, .int .i64 vb, .int .u64 (vn : Int), .slice vD vd.length v1, .slice vE vs.length v2, .slice vT vtos.length v3, .int .i64 vtrap] 61 (by simp), (((Below.refl _ _).alloc (Nat.le_refl _) _).alloc (by simp) _).drew⟩
        · skip
          go_simp
          skip
          (try dsimp only)
          refine hK.out _ _ ?_ (fun hHeld1 => ?_)
          · first | trivial | ((try dsimp only); first | assumption | trivial | go_keep)
          clear hK K hHeld0
          (try simp only [Act.put, List.setIfInBounds_toArray, List.set_cons_succ, List.set_cons_zero])
          refine wpAnyH_ready (rs := [10]) (by kernel_rfl) (by simp) ?_
          refine (AllReadyH.cons (o := ⟨some 6, .alloc 61, 0, "ref.go:514", #[], none⟩) rfl (fun K hK => ?_) AllReadyH.nil)
          go_simp
          skip
          (try dsimp only)
          refine hK.out _ _ ?_ (fun hHeld2 => ?_)
          · first | trivial | ((try dsimp only); first | assumption | trivial | go_keep)
          clear hK K hHeld1
          (try simp only [Act.put, List.setIfInBounds_toArray, List.set_cons_succ, List.set_cons_zero])
          refine wpAnyH_ready (rs := [12]) (by kernel_rfl) (by simp) ?_
          refine (AllReadyH.cons (o := ⟨none, .store 61 (.tmp 6) (.tmp 41), 0, "ref.go:514", #[⟨10, .data⟩, ⟨4, .data⟩, ⟨0, .phase⟩, ⟨1, .phase⟩, ⟨2, .phase⟩, ⟨3, .phase⟩, ⟨4, .phase⟩, { on := 5, ground := .textOnly Go.Departure.lateStores }, { on := 6, ground := .textOnly Go.Departure.lateStores }, { on := 7, ground := .textOnly Go.Departure.lateStores }, { on := 8, ground := .textOnly Go.Departure.lateStores }, { on := 9, ground := .textOnly Go.Departure.lateStores }, ⟨10, .phase⟩, ⟨11, .phase⟩], none⟩) rfl (fun K hK => ?_) AllReadyH.nil)
          go_simp
          skip
          (try dsimp only)
          refine hK.out _ _ ?_ (fun hHeld3 => ?_)
          · first | trivial | ((try dsimp only); first | assumption | trivial | go_keep)
          clear hK K hHeld2
          (try simp only [Act.put, List.setIfInBounds_toArray, List.set_cons_succ, List.set_cons_zero])
          refine wpAnyH_ready (rs := [13]) (by kernel_rfl) (by simp) ?_
          refine (AllReadyH.cons (o := ⟨none, .store 61 (.tmp 7) (.tmp 46), 0, "ref.go:514", #[⟨11, .data⟩, ⟨9, .data⟩, ⟨12, .chain⟩, ⟨0, .phase⟩, ⟨1, .phase⟩, ⟨2, .phase⟩, ⟨3, .phase⟩, ⟨4, .phase⟩, ⟨5, .phase⟩, ⟨6, .phase⟩, ⟨7, .phase⟩, ⟨8, .phase⟩, ⟨9, .phase⟩, ⟨10, .phase⟩, ⟨11, .phase⟩, ⟨12, .phase⟩], none⟩) rfl (fun K hK => ?_) AllReadyH.nil)
          go_simp
          skip
          (try dsimp only)
          refine hK.out _ _ ?_ (fun hHeld4 => ?_)
          · first | trivial | ((try dsimp only); first | assumption | trivial | go_keep)
          clear hK K hHeld3
          (try simp only [Act.put, List.setIfInBounds_toArray, List.set_cons_succ, List.set_cons_zero])
          refine wpAnyH_done (by kernel_rfl) ?_ _
          go_wp2_with fail
          go_meet
          exact ⟨_, _, rfl, rfl, Var.newE (wr.alloc (.cells #[.int .i64 vk, .int .i64 vo, .int .i64 va, .int .i64 vb, .int .u64 (vn : Int), .slice vD vd.length v1, .slice vE vs.length v2, .slice vT vtos.length v3, .int .i64 vtrap] 61)) #[.int .i64 uk, .int .i64 uo, .int .i64 ua, .int .i64 ub, .int .u64 (un : Int), .slice uD ud.length u1, .slice uE us.length u2, .slice uT utos.length u3, .int .i64 utrap] 61 (by simp), (Var.new wr #[.int .i64 vk, .int .i64 vo, .int .i64 va, .int .i64 vb, .int .u64 (vn : Int), .slice vD vd.length v1, .slice vE vs.length v2, .slice vT vtos.length v3, .int .i64 vtrap] 61).alloc _, (((Below.refl _ _).alloc (Nat.le_refl _) _).alloc (by simp) _).drew⟩
      case rest =>
      obtain ⟨K6, K7, rfl, rfl, V6, V7, BW⟩ := hcut
      obtain ⟨p0, p1, p2, p3, p4, p5, p6, p7, p8⟩ := cells9 V6
      obtain ⟨r0, r1, r2, r3, r4, r5, r6, r7, r8⟩ := cells9 V7
      have hru2 := hru.on BW
      have hrv2 := hrv.on BW
      have HD := Lib.hid (fun W (hb : Below wc.heap.size wc W) => rps_any S S' uD vD u1 v1 ud vd W (RdP.on hru2.d hb) (RdP.on hrv2.d hb) ok1)
      have HE := Lib.hid (fun W (hb : Below wc.heap.size wc W) => rps_any S S' uE vE u2 v2 us vs W (RdP.on hru2.s hb) (RdP.on hrv2.s hb) ok2)
      have HTO := Lib.hid (fun W (hb : Below wc.heap.size wc W) => rints_any S S' uT vT u3 v3 utos vtos W (RdZ.on hru2.t hb) (RdZ.on hrv2.t hb) ok3)
      have HBW := Lib.hid (HB.out.trans (BW.mono HB.out.size))
      have HN1 := Lib.hid (var_keep HV1.out BW)
      have HN2 := Lib.hid (var_keep HV2.out BW)
      have HV6 := Lib.hid V6
      have HV7 := Lib.hid V7
      clear V6 V7 BW hru hrv hru2 hrv2 HV1 HV2 HB c0 c1 c2 c3 c4 c5 c6 c7 c8 e0 e1 e2 e3 e4 e5 e6 e7 e8 ok1 ok2 ok3 a0 a1 a2 a3 b0 b1 b2 b3
      obtain ⟨fd, hfd⟩ : ∃ v, decide (ud = vd) = v := ⟨_, rfl⟩
      obtain ⟨fs, hfs⟩ : ∃ v, decide (us = vs) = v := ⟨_, rfl⟩
      obtain ⟨ft, hft⟩ : ∃ v, decide (utos = vtos) = v := ⟨_, rfl⟩
      rw [hfd] at HD hR
      rw [hfs] at HE hR
      rw [hft] at HTO hR
      clear hfd hfs hft
      by_cases m0 : ¬ (uk = vk)
      · have HF : Hid (R = false) := Lib.hid (by rw [← hR]; simp [m0])
        clear hR
        go_wp2_with fail
        go_ret
        exact ⟨by rw [HF.out]; rfl, HBW.out⟩
      replace m0 : uk = vk := Decidable.not_not.1 m0
      subst m0
      by_cases m1 : ¬ (uo = vo)
      · have HF : Hid (R = false) := Lib.hid (by rw [← hR]; simp [m1])
        clear hR
        go_wp2_with fail
        go_ret
        exact ⟨by rw [HF.out]; rfl, HBW.out⟩
      replace m1 : uo = vo := Decidable.not_not.1 m1
      subst m1
      by_cases m2 : ¬ (ua = va)
      · have HF : Hid (R = false) := Lib.hid (by rw [← hR]; simp [m2])
        clear hR
        go_wp2_with fail
        go_ret
        exact ⟨by rw [HF.out]; rfl, HBW.out⟩
      replace m2 : ua = va := Decidable.not_not.1 m2
      subst m2
      by_cases m3 : ¬ (ub = vb)
      · have HF : Hid (R = false) := Lib.hid (by rw [← hR]; simp [m3])
        clear hR
        go_wp2_with fail
        go_ret
        exact ⟨by rw [HF.out]; rfl, HBW.out⟩
      replace m3 : ub = vb := Decidable.not_not.1 m3
      subst m3
      by_cases m4 : ¬ (un = vn)
      · have HF : Hid (R = false) := Lib.hid (by rw [← hR]; simp [m4])
        have m9 : ¬ ((un : Int) = (vn : Int)) := by omega
        clear hR
        go_wp2_with fail
        go_ret
        exact ⟨by rw [HF.out]; rfl, HBW.out⟩
      replace m4 : un = vn := Decidable.not_not.1 m4
      subst m4
      by_cases m5 : ¬ (utrap = vtrap)
      · have HF : Hid (R = false) := Lib.hid (by rw [← hR]; simp [m5])
        clear hR
        go_wp2_with fail
        go_ret
        exact ⟨by rw [HF.out]; rfl, HBW.out⟩
      replace m5 : utrap = vtrap := Decidable.not_not.1 m5
      subst m5
      rcases fd with _ | _
      · have HF : Hid (R = false) := Lib.hid (by rw [← hR]; simp)
        clear hR
        go_wp2_with (first
        | (go_at_call 45; with_reducible refine (HD.out _ (Below.refl _ _)).mono ?_; rintro e w3 ⟨rfl, hb⟩; have HC0 := Lib.hid hb; have HB3 := Lib.hid (HBW.out.trans (hb.mono HBW.out.size)); have V60 := Lib.hid (var_keep HV6.out hb); have V70 := Lib.hid (var_keep HV7.out hb); have N10 := Lib.hid (var_keep HN1.out hb); have N20 := Lib.hid (var_keep HN2.out hb); obtain ⟨a00, a10, a20, a30, a40, a50, a60, a70, a80⟩ := cells9 V60.out; obtain ⟨b00, b10, b20, b30, b40, b50, b60, b70, b80⟩ := cells9 V70.out; clear hb)
        | (go_at_call 45; with_reducible refine (HE.out _ HC0.out).mono ?_; rintro e w4 ⟨rfl, hb⟩; have HC1 := Lib.hid (HC0.out.trans (hb.mono HC0.out.size)); have HB4 := Lib.hid (HB3.out.trans (hb.mono HB3.out.size)); have V61 := Lib.hid (var_keep V60.out hb); have V71 := Lib.hid (var_keep V70.out hb); have N11 := Lib.hid (var_keep N10.out hb); have N21 := Lib.hid (var_keep N20.out hb); obtain ⟨a01, a11, a21, a31, a41, a51, a61, a71, a81⟩ := cells9 V61.out; obtain ⟨b01, b11, b21, b31, b41, b51, b61, b71, b81⟩ := cells9 V71.out; clear hb)
        | (go_at_call 46; with_reducible refine (HTO.out _ HC1.out).mono ?_; rintro e w5 ⟨rfl, hb⟩; have HC2 := Lib.hid (HC1.out.trans (hb.mono HC1.out.size)); have HB5 := Lib.hid (HB4.out.trans (hb.mono HB4.out.size)); have V62 := Lib.hid (var_keep V61.out hb); have V72 := Lib.hid (var_keep V71.out hb); have N12 := Lib.hid (var_keep N11.out hb); have N22 := Lib.hid (var_keep N21.out hb); obtain ⟨a02, a12, a22, a32, a42, a52, a62, a72, a82⟩ := cells9 V62.out; obtain ⟨b02, b12, b22, b32, b42, b52, b62, b72, b82⟩ := cells9 V72.out; clear hb))
        go_ret
        exact ⟨by rw [HF.out]; rfl, HB3.out⟩
      rcases fs with _ | _
      · have HF : Hid (R = false) := Lib.hid (by rw [← hR]; simp)
        clear hR
        go_wp2_with (first
        | (go_at_call 45; with_reducible refine (HD.out _ (Below.refl _ _)).mono ?_; rintro e w3 ⟨rfl, hb⟩; have HC0 := Lib.hid hb; have HB3 := Lib.hid (HBW.out.trans (hb.mono HBW.out.size)); have V60 := Lib.hid (var_keep HV6.out hb); have V70 := Lib.hid (var_keep HV7.out hb); have N10 := Lib.hid (var_keep HN1.out hb); have N20 := Lib.hid (var_keep HN2.out hb); obtain ⟨a00, a10, a20, a30, a40, a50, a60, a70, a80⟩ := cells9 V60.out; obtain ⟨b00, b10, b20, b30, b40, b50, b60, b70, b80⟩ := cells9 V70.out; clear hb)
        | (go_at_call 45; with_reducible refine (HE.out _ HC0.out).mono ?_; rintro e w4 ⟨rfl, hb⟩; have HC1 := Lib.hid (HC0.out.trans (hb.mono HC0.out.size)); have HB4 := Lib.hid (HB3.out.trans (hb.mono HB3.out.size)); have V61 := Lib.hid (var_keep V60.out hb); have V71 := Lib.hid (var_keep V70.out hb); have N11 := Lib.hid (var_keep N10.out hb); have N21 := Lib.hid (var_keep N20.out hb); obtain ⟨a01, a11, a21, a31, a41, a51, a61, a71, a81⟩ := cells9 V61.out; obtain ⟨b01, b11, b21, b31, b41, b51, b61, b71, b81⟩ := cells9 V71.out; clear hb)
        | (go_at_call 46; with_reducible refine (HTO.out _ HC1.out).mono ?_; rintro e w5 ⟨rfl, hb⟩; have HC2 := Lib.hid (HC1.out.trans (hb.mono HC1.out.size)); have HB5 := Lib.hid (HB4.out.trans (hb.mono HB4.out.size)); have V62 := Lib.hid (var_keep V61.out hb); have V72 := Lib.hid (var_keep V71.out hb); have N12 := Lib.hid (var_keep N11.out hb); have N22 := Lib.hid (var_keep N21.out hb); obtain ⟨a02, a12, a22, a32, a42, a52, a62, a72, a82⟩ := cells9 V62.out; obtain ⟨b02, b12, b22, b32, b42, b52, b62, b72, b82⟩ := cells9 V72.out; clear hb))
        go_ret
        exact ⟨by rw [HF.out]; rfl, HB4.out⟩
      rcases ft with _ | _
      · have HF : Hid (R = false) := Lib.hid (by rw [← hR]; simp)
        clear hR
        go_wp2_with (first
        | (go_at_call 45; with_reducible refine (HD.out _ (Below.refl _ _)).mono ?_; rintro e w3 ⟨rfl, hb⟩; have HC0 := Lib.hid hb; have HB3 := Lib.hid (HBW.out.trans (hb.mono HBW.out.size)); have V60 := Lib.hid (var_keep HV6.out hb); have V70 := Lib.hid (var_keep HV7.out hb); have N10 := Lib.hid (var_keep HN1.out hb); have N20 := Lib.hid (var_keep HN2.out hb); obtain ⟨a00, a10, a20, a30, a40, a50, a60, a70, a80⟩ := cells9 V60.out; obtain ⟨b00, b10, b20, b30, b40, b50, b60, b70, b80⟩ := cells9 V70.out; clear hb)
        | (go_at_call 45; with_reducible refine (HE.out _ HC0.out).mono ?_; rintro e w4 ⟨rfl, hb⟩; have HC1 := Lib.hid (HC0.out.trans (hb.mono HC0.out.size)); have HB4 := Lib.hid (HB3.out.trans (hb.mono HB3.out.size)); have V61 := Lib.hid (var_keep V60.out hb); have V71 := Lib.hid (var_keep V70.out hb); have N11 := Lib.hid (var_keep N10.out hb); have N21 := Lib.hid (var_keep N20.out hb); obtain ⟨a01, a11, a21, a31, a41, a51, a61, a71, a81⟩ := cells9 V61.out; obtain ⟨b01, b11, b21, b31, b41, b51, b61, b71, b81⟩ := cells9 V71.out; clear hb)
        | (go_at_call 46; with_reducible refine (HTO.out _ HC1.out).mono ?_; rintro e w5 ⟨rfl, hb⟩; have HC2 := Lib.hid (HC1.out.trans (hb.mono HC1.out.size)); have HB5 := Lib.hid (HB4.out.trans (hb.mono HB4.out.size)); have V62 := Lib.hid (var_keep V61.out hb); have V72 := Lib.hid (var_keep V71.out hb); have N12 := Lib.hid (var_keep N11.out hb); have N22 := Lib.hid (var_keep N21.out hb); obtain ⟨a02, a12, a22, a32, a42, a52, a62, a72, a82⟩ := cells9 V62.out; obtain ⟨b02, b12, b22, b32, b42, b52, b62, b72, b82⟩ := cells9 V72.out; clear hb))
        go_ret
        exact ⟨by rw [HF.out]; rfl, HB5.out⟩
      have HF : Hid (decide (xcode.drop (k + 1) = ycode.drop (k + 1)) = R) := Lib.hid (by rw [← hR]; simp)
      clear hR
      go_wp2_with (first
        | (go_at_call 45; with_reducible refine (HD.out _ (Below.refl _ _)).mono ?_; rintro e w3 ⟨rfl, hb⟩; have HC0 := Lib.hid hb; have HB3 := Lib.hid (HBW.out.trans (hb.mono HBW.out.size)); have V60 := Lib.hid (var_keep HV6.out hb); have V70 := Lib.hid (var_keep HV7.out hb); have N10 := Lib.hid (var_keep HN1.out hb); have N20 := Lib.hid (var_keep HN2.out hb); obtain ⟨a00, a10, a20, a30, a40, a50, a60, a70, a80⟩ := cells9 V60.out; obtain ⟨b00, b10, b20, b30, b40, b50, b60, b70, b80⟩ := cells9 V70.out; clear hb)
        | (go_at_call 45; with_reducible refine (HE.out _ HC0.out).mono ?_; rintro e w4 ⟨rfl, hb⟩; have HC1 := Lib.hid (HC0.out.trans (hb.mono HC0.out.size)); have HB4 := Lib.hid (HB3.out.trans (hb.mono HB3.out.size)); have V61 := Lib.hid (var_keep V60.out hb); have V71 := Lib.hid (var_keep V70.out hb); have N11 := Lib.hid (var_keep N10.out hb); have N21 := Lib.hid (var_keep N20.out hb); obtain ⟨a01, a11, a21, a31, a41, a51, a61, a71, a81⟩ := cells9 V61.out; obtain ⟨b01, b11, b21, b31, b41, b51, b61, b71, b81⟩ := cells9 V71.out; clear hb)
        | (go_at_call 46; with_reducible refine (HTO.out _ HC1.out).mono ?_; rintro e w5 ⟨rfl, hb⟩; have HC2 := Lib.hid (HC1.out.trans (hb.mono HC1.out.size)); have HB5 := Lib.hid (HB4.out.trans (hb.mono HB4.out.size)); have V62 := Lib.hid (var_keep V61.out hb); have V72 := Lib.hid (var_keep V71.out hb); have N12 := Lib.hid (var_keep N11.out hb); have N22 := Lib.hid (var_keep N21.out hb); obtain ⟨a02, a12, a22, a32, a42, a52, a62, a72, a82⟩ := cells9 V62.out; obtain ⟨b02, b12, b22, b32, b42, b52, b62, b72, b82⟩ := cells9 V72.out; clear hb))
      go_roundw
      case measure => simp [intOf]; omega
      case rel => exact ⟨k + 1, by go_num, by omega, HF, HB5, N12, N22⟩
    · have hk2 : k = n := by omega
      have HF : Hid (R = true) := Lib.hid (by rw [← HR.out, hk2, List.drop_of_length_le (by omega), List.drop_of_length_le (by omega)]; simp)
      have x0 : ¬ (k : Int) < (n : Int) := by omega
      clear hk2
      go_wp2
      go_ret
      exact ⟨by rw [HF.out]; rfl, HB.out⟩
end Go.Proofs.YtadnfekogmjieaaGreatDoor
