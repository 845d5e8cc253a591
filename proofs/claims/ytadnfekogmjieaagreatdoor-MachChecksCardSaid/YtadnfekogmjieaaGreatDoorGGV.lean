/-
  Layer 51, the program: places, and the closures that check places and targets. (Printed by gen_mc8.py.)
  Layer 51, the program: once, and what it calls. (Printed by gen_mc9.py.)
  Layer 51, the program: right. (Printed by gen_mc10.py.)
-/
import Derived.Test.YtadnfekogmjieaaGreatDoorGMC7
import Derived.Test.YtadnfekogmjieaaGreatDoorGG2
import Derived.Test.YtadnfekogmjieaaGreatDoorGGF
import Derived.Test.YtadnfekogmjieaaGreatDoorGGI
import Derived.Test.YtadnfekogmjieaaGreatDoorGGJ
import Derived.Test.YtadnfekogmjieaaGreatDoorGTk
import Derived.Deep.RegionHeld3
set_option linter.unusedVariables false
set_option linter.unusedSimpArgs false
namespace Go.Proofs.YtadnfekogmjieaaGreatDoor
open Go.RowKit
open Mc (Pl Mi Mf Th Wt)
theorem wrap_pred_int {z : Int} (h0 : 0 ≤ z) (h1 : z ≤ 1000000) : IntKind.i64.wrap (z - 1) = z - 1 := by rw [IntKind.wrap_i64]; omega
set_option maxHeartbeats 2000000 in
set_option maxRecDepth 100000 in
theorem plcap_any (p : Pl) (f : Mf) (P : Option Addr) (p1 : Nat) (R0 : Option Addr) (p2 : Nat) (C : Option Addr) (p3 : Nat) (regs : Int) (hs : 0 ≤ f.slots ∧ f.slots ≤ 1000000) (hr : 0 ≤ regs ∧ regs ≤ 1000000) (K4 K5 : Nat) (w : World) (V4 : Var w K4 (mfV f P p1 R0 p2 C p3) 39) (V5 : Var w K5 #[.int .i64 regs] 3) :
    Calls Tryz.prog 108 #[.agg #[.bool p.slot, .int .i64 p.n], .pointer (some ⟨K4, 0, none⟩), .pointer (some ⟨K5, 0, none⟩)] w fun e w' => e = .returned (.bool (!Mc.plOk f.slots regs p)) ∧ Below w.heap.size w w' := by
  have w1 := wrap_pred_int hs.1 hs.2
  have w2 := wrap_pred_int hr.1 hr.2
  obtain ⟨b, n⟩ := p
  unfold Mc.plOk
  dsimp only
  have ha := (Below.refl w.heap.size w).alloc (Nat.le_refl _) (.cells #[.bool b, .int .i64 n] 64)
  obtain ⟨y0, y1, y2, y3⟩ := mfV_cells (var_keep V4 ha)
  have q0 : (w.alloc (.cells #[.bool b, .int .i64 n] 64)).cell? ⟨K5, 0, none⟩ = some (.int .i64 regs) := (var_keep V5 ha).cells 0
  have HB := Lib.hid ha
  clear ha V4 V5
  rcases b with _ | _
  all_goals
    go_enter Tryz.func108, Tryz.ntmps108
    go_wp2_with (go_at_call 24; refine (within_any _ _ _).mono ?_; rintro e w1 ⟨rfl, rfl⟩)
    go_ret
    exact ⟨rfl, HB.out⟩
theorem tocap_any (z : Int) (f : Mf) (P : Option Addr) (p1 : Nat) (R0 : Option Addr) (p2 : Nat) (C : Option Addr) (p3 : Nat) (hl : f.code.length ≤ 1000000) (K4 : Nat) (w : World) (V4 : Var w K4 (mfV f P p1 R0 p2 C p3) 39) :
    Calls Tryz.prog 57 #[.int .i64 z, .pointer (some ⟨K4, 0, none⟩)] w fun e w' => e = .returned (.bool (!Mc.toOk f.code.length z)) ∧ Below w.heap.size w w' := by
  have w1 := wrap_pred hl
  unfold Mc.toOk
  obtain ⟨y0, y1, y2, y3⟩ := mfV_cells V4
  clear V4
  go_enter Tryz.func57, Tryz.ntmps57
  go_wp2_with (go_at_call 24; refine (within_any _ _ _).mono ?_; rintro e w1 ⟨rfl, rfl⟩)
  go_ret
  exact ⟨rfl, Below.refl _ _⟩
set_option maxHeartbeats 2000000 in
set_option maxRecDepth 100000 in
theorem anyBadP_idx (S : Nat → Prop) (A : Option Addr) (c : Nat) (l : List Pl) (hl : l.length ≤ 1000000) (f : Mf) (P : Option Addr) (p1 : Nat) (R0 : Option Addr) (p2 : Nat) (C : Option Addr) (p3 : Nat) (regs : Int) (hs : 0 ≤ f.slots ∧ f.slots ≤ 1000000) (hr : 0 ≤ regs ∧ regs ≤ 1000000) (K4 K5 : Nat) (w : World) (V4 : Var w K4 (mfV f P p1 R0 p2 C p3) 39) (V5 : Var w K5 #[.int .i64 regs] 3) (h : RdP w S A l) :
    Calls Tryz.prog 147 #[.slice A l.length c, .func (.func 108) #[] #[.pointer (some ⟨K4, 0, none⟩), .pointer (some ⟨K5, 0, none⟩)]] w fun e w' => (∃ z : Int, e = .returned (.int .i64 z) ∧ decide (0 ≤ z) = l.any (fun p => !Mc.plOk f.slots regs p)) ∧ Below w.heap.size w w' := by
  obtain ⟨R, hR⟩ : ∃ R, l.any (fun p => !Mc.plOk f.slots regs p) = R := ⟨_, rfl⟩
  rw [hR]
  have HR : Hid (((l.drop 0).any (fun p => !Mc.plOk f.slots regs p)) = R) := Lib.hid hR
  clear hR
  have HPc := Lib.hid (fun (p : Pl) W (hb : Below w.heap.size w W) => plcap_any p f P p1 R0 p2 C p3 regs hs hr K4 K5 W (var_keep V4 hb) (var_keep V5 hb))
  go_enter Tryz.func147, Tryz.ntmps147
  go_wp2
  go_loopw [8] (fun iv wr => ∃ i : Nat, iv = .int .i64 (i : Int) ∧ i ≤ l.length ∧ Hid (((l.drop i).any (fun p => !Mc.plOk f.slots regs p)) = R) ∧ Below w.heap.size w wr) (fun iv _ => l.length - (intOf iv).toNat)
  case atStart => exact ⟨0, rfl, by omega, HR, Below.refl _ _⟩
  case round =>
    clear HR
    obtain ⟨i, rfl, hi, HR, hB⟩ := hrel
    by_cases hia : i < l.length
    · have x0 : (i : Int) < (l.length : Int) := by omega
      have x1 : (0 : Int) ≤ (i : Int) := by omega
      obtain ⟨g, o, rfl, -, -, f0, f1⟩ := (RdP.on h hB).get hia
      have hd := HR.out
      rw [List.drop_eq_getElem_cons hia, List.any_cons] at hd
      obtain ⟨p, hp⟩ : ∃ p, l[i] = p := ⟨_, rfl⟩
      rw [hp] at hd f0 f1
      clear hp HR
      have HB := Lib.hid hB
      clear hB
      rcases hq : (!Mc.plOk f.slots regs p) with _ | _
      · rw [hq, Bool.false_or] at hd
        have HD := Lib.hid hd
        clear hd
        have hq' := Lib.hid hq
        clear hq
        go_wp2_with (go_at_call 108; refine (HPc.out p _ HB.out).mono ?_; rintro e w1 ⟨rfl, hb⟩; rw [hq'.out])
        go_roundw
        case rel => exact ⟨i + 1, by go_num, by omega, HD, HB.out.trans (hb.mono HB.out.size)⟩
        case measure => simp [intOf] <;> omega
      · rw [hq, Bool.true_or] at hd
        have HD := Lib.hid hd
        clear hd
        have hq' := Lib.hid hq
        clear hq
        go_wp2_with (go_at_call 108; refine (HPc.out p _ HB.out).mono ?_; rintro e w1 ⟨rfl, hb⟩; rw [hq'.out])
        go_ret
        exact ⟨⟨_, rfl, by rw [← HD.out]; simp⟩, HB.out.trans (hb.mono HB.out.size)⟩
    · have hi2 : i = l.length := by omega
      subst hi2
      have x0 : ¬ (l.length : Int) < (l.length : Int) := by omega
      have hd := HR.out
      rw [List.drop_length] at hd
      have HD := Lib.hid hd
      clear hd HR
      go_wp2
      go_ret
      exact ⟨⟨_, rfl, by rw [← HD.out]; simp⟩, hB⟩
theorem anyBadP_any (S : Nat → Prop) (A : Option Addr) (c : Nat) (l : List Pl) (hl : l.length ≤ 1000000) (f : Mf) (P : Option Addr) (p1 : Nat) (R0 : Option Addr) (p2 : Nat) (C : Option Addr) (p3 : Nat) (regs : Int) (hs : 0 ≤ f.slots ∧ f.slots ≤ 1000000) (hr : 0 ≤ regs ∧ regs ≤ 1000000) (K4 K5 : Nat) (w : World) (V4 : Var w K4 (mfV f P p1 R0 p2 C p3) 39) (V5 : Var w K5 #[.int .i64 regs] 3) (h : RdP w S A l) :
    Calls Tryz.prog 107 #[.slice A l.length c, .func (.func 108) #[] #[.pointer (some ⟨K4, 0, none⟩), .pointer (some ⟨K5, 0, none⟩)]] w fun e w' => e = .returned (.bool (l.any (fun p => !Mc.plOk f.slots regs p))) ∧ Below w.heap.size w w' := by
  have HC := Lib.hid (anyBadP_idx S A c l hl f P p1 R0 p2 C p3 regs hs hr K4 K5 w V4 V5 h)
  go_enter Tryz.func107, Tryz.ntmps107
  go_wp2_with (go_at_call 147; with_reducible refine HC.out.mono ?_; rintro e w1 ⟨⟨z, rfl, hz⟩, hb⟩)
  go_ret
  exact ⟨by rw [← hz]; rfl, hb⟩
set_option maxHeartbeats 2000000 in
set_option maxRecDepth 100000 in
theorem anyBadT_idx (S : Nat → Prop) (A : Option Addr) (c : Nat) (l : List Int) (hl : l.length ≤ 1000000) (f : Mf) (P : Option Addr) (p1 : Nat) (R0 : Option Addr) (p2 : Nat) (C : Option Addr) (p3 : Nat) (hcl : f.code.length ≤ 1000000) (K4 : Nat) (w : World) (V4 : Var w K4 (mfV f P p1 R0 p2 C p3) 39) (h : RdZ w S A l) :
    Calls Tryz.prog 110 #[.slice A l.length c, .func (.func 57) #[] #[.pointer (some ⟨K4, 0, none⟩)]] w fun e w' => (∃ z : Int, e = .returned (.int .i64 z) ∧ decide (0 ≤ z) = l.any (fun p => !Mc.toOk f.code.length p)) ∧ Below w.heap.size w w' := by
  obtain ⟨R, hR⟩ : ∃ R, l.any (fun p => !Mc.toOk f.code.length p) = R := ⟨_, rfl⟩
  rw [hR]
  have HR : Hid (((l.drop 0).any (fun p => !Mc.toOk f.code.length p)) = R) := Lib.hid hR
  clear hR
  have HPc := Lib.hid (fun (p : Int) W (hb : Below w.heap.size w W) => tocap_any p f P p1 R0 p2 C p3 hcl K4 W (var_keep V4 hb))
  go_enter Tryz.func110, Tryz.ntmps110
  go_wp2
  go_loopw [8] (fun iv wr => ∃ i : Nat, iv = .int .i64 (i : Int) ∧ i ≤ l.length ∧ Hid (((l.drop i).any (fun p => !Mc.toOk f.code.length p)) = R) ∧ Below w.heap.size w wr) (fun iv _ => l.length - (intOf iv).toNat)
  case atStart => exact ⟨0, rfl, by omega, HR, Below.refl _ _⟩
  case round =>
    clear HR
    obtain ⟨i, rfl, hi, HR, hB⟩ := hrel
    by_cases hia : i < l.length
    · have x0 : (i : Int) < (l.length : Int) := by omega
      have x1 : (0 : Int) ≤ (i : Int) := by omega
      obtain ⟨g, o, rfl, -, -, f0'⟩ := (RdZ.on h hB).get hia
      have f0 : wr.cell? ⟨g, o + i, none⟩ = some (.int .i64 l[i]) := by simpa [ZAt] using f0'
      clear f0'
      have hd := HR.out
      rw [List.drop_eq_getElem_cons hia, List.any_cons] at hd
      obtain ⟨p, hp⟩ : ∃ p, l[i] = p := ⟨_, rfl⟩
      rw [hp] at hd f0
      clear hp HR
      have HB := Lib.hid hB
      clear hB
      rcases hq : (!Mc.toOk f.code.length p) with _ | _
      · rw [hq, Bool.false_or] at hd
        have HD := Lib.hid hd
        clear hd
        have hq' := Lib.hid hq
        clear hq
        go_wp2_with (go_at_call 57; refine (HPc.out p _ HB.out).mono ?_; rintro e w1 ⟨rfl, hb⟩; rw [hq'.out])
        go_roundw
        case rel => exact ⟨i + 1, by go_num, by omega, HD, HB.out.trans (hb.mono HB.out.size)⟩
        case measure => simp [intOf] <;> omega
      · rw [hq, Bool.true_or] at hd
        have HD := Lib.hid hd
        clear hd
        have hq' := Lib.hid hq
        clear hq
        go_wp2_with (go_at_call 57; refine (HPc.out p _ HB.out).mono ?_; rintro e w1 ⟨rfl, hb⟩; rw [hq'.out])
        go_ret
        exact ⟨⟨_, rfl, by rw [← HD.out]; simp⟩, HB.out.trans (hb.mono HB.out.size)⟩
    · have hi2 : i = l.length := by omega
      subst hi2
      have x0 : ¬ (l.length : Int) < (l.length : Int) := by omega
      have hd := HR.out
      rw [List.drop_length] at hd
      have HD := Lib.hid hd
      clear hd HR
      go_wp2
      go_ret
      exact ⟨⟨_, rfl, by rw [← HD.out]; simp⟩, hB⟩
theorem anyBadT_any (S : Nat → Prop) (A : Option Addr) (c : Nat) (l : List Int) (hl : l.length ≤ 1000000) (f : Mf) (P : Option Addr) (p1 : Nat) (R0 : Option Addr) (p2 : Nat) (C : Option Addr) (p3 : Nat) (hcl : f.code.length ≤ 1000000) (K4 : Nat) (w : World) (V4 : Var w K4 (mfV f P p1 R0 p2 C p3) 39) (h : RdZ w S A l) :
    Calls Tryz.prog 60 #[.slice A l.length c, .func (.func 57) #[] #[.pointer (some ⟨K4, 0, none⟩)]] w fun e w' => e = .returned (.bool (l.any (fun p => !Mc.toOk f.code.length p))) ∧ Below w.heap.size w w' := by
  have HC := Lib.hid (anyBadT_idx S A c l hl f P p1 R0 p2 C p3 hcl K4 w V4 h)
  go_enter Tryz.func60, Tryz.ntmps60
  go_wp2_with (go_at_call 110; with_reducible refine HC.out.mono ?_; rintro e w1 ⟨⟨z, rfl, hz⟩, hb⟩)
  go_ret
  exact ⟨by rw [← hz]; rfl, hb⟩
set_option maxHeartbeats 2000000 in
set_option maxRecDepth 100000 in
theorem mplaces_any (S : Nat → Prop) (A : Option Addr) (c : Nat) (l : List Pl) (hl : l.length ≤ 1000000) (f : Mf) (P : Option Addr) (p1 : Nat) (R0 : Option Addr) (p2 : Nat) (C : Option Addr) (p3 : Nat) (regs : Int) (hs : 0 ≤ f.slots ∧ f.slots ≤ 1000000) (hr : 0 ≤ regs ∧ regs ≤ 1000000) (w : World) (h : RdP w S A l) :
    Calls Tryz.prog 58 #[.slice A l.length c, .agg (mfV f P p1 R0 p2 C p3), .int .i64 regs] w fun e w' => e = .returned (.bool (l.all (Mc.plOk f.slots regs))) ∧ Below w.heap.size w w' := by
  have hb := ((Below.refl w.heap.size w).alloc (Nat.le_refl _) (.cells (mfV f P p1 R0 p2 C p3) 39)).alloc (by simp) (.cells #[.int .i64 regs] 3)
  have V4 : Var ((w.alloc (.cells (mfV f P p1 R0 p2 C p3) 39)).alloc (.cells #[.int .i64 regs] 3)) w.heap.size (mfV f P p1 R0 p2 C p3) 39 := (Var.new w _ _).alloc _
  have V5 : Var ((w.alloc (.cells (mfV f P p1 R0 p2 C p3) 39)).alloc (.cells #[.int .i64 regs] 3)) (w.heap.size + 1) #[.int .i64 regs] 3 := by have h := Var.new (w.alloc (.cells (mfV f P p1 R0 p2 C p3) 39)) #[.int .i64 regs] 3; simpa using h
  have HC := Lib.hid (anyBadP_any S A c l hl f P p1 R0 p2 C p3 regs hs hr w.heap.size (w.heap.size + 1) _ V4 V5 (RdP.on h hb))
  have HB := Lib.hid hb
  have he : (!l.any (fun p => !Mc.plOk f.slots regs p)) = l.all (Mc.plOk f.slots regs) := by rw [List.not_any_eq_all_not]; simp
  obtain ⟨q, hq⟩ : ∃ q, l.any (fun p => !Mc.plOk f.slots regs p) = q := ⟨_, rfl⟩
  rw [hq] at HC he
  rw [← he]
  clear hb V4 V5 hq he
  unfold mfV at HC ⊢
  go_enter Tryz.func58, Tryz.ntmps58
  go_wp2_with (go_at_call 107; refine HC.out.mono ?_; rintro e w1 ⟨rfl, hb⟩)
  go_ret
  exact ⟨rfl, HB.out.trans (hb.mono HB.out.size)⟩
end Go.Proofs.YtadnfekogmjieaaGreatDoor
set_option linter.unusedVariables false
set_option linter.unusedSimpArgs false
namespace Go.Proofs.YtadnfekogmjieaaGreatDoor
open Go.RowKit
open Mc (Pl Mi Mf)
theorem RdP.take {w : World} {S : Nat → Prop} {A : Option Addr} {l : List Pl} (h : RdP w S A l) (i : Nat) : RdP w S A (l.take i) := fun hl => by
  have hne : l ≠ [] := fun e => hl (by rw [e]; simp)
  obtain ⟨g, o, e, hs, hg, hc⟩ := h hne
  refine ⟨g, o, e, hs, hg, fun j hj => ?_⟩
  have hj2 : j < l.length := by rw [List.length_take] at hj; omega
  rw [List.getElem_take]
  exact hc j hj2
set_option maxHeartbeats 4000000 in
set_option maxRecDepth 100000 in
theorem pidx_any (S : Nat → Prop) (A : Option Addr) (c : Nat) (l : List Pl) (hl : l.length ≤ 1000000) (p : Pl) (w : World) (h : RdP w S A l) :
    Calls Tryz.prog 148 #[.slice A l.length c, .agg #[.bool p.slot, .int .i64 p.n]] w fun e w' => (∃ z : Int, e = .returned (.int .i64 z) ∧ decide (0 ≤ z) = l.contains p) ∧ Below w.heap.size w w' := by
  obtain ⟨R, hR⟩ : ∃ R, l.contains p = R := ⟨_, rfl⟩
  rw [hR]
  have HR : Hid ((l.drop 0).contains p = R) := Lib.hid hR
  have HB0 := Lib.hid ((Below.refl w.heap.size w).alloc (Nat.le_refl _) (.cells #[.bool p.slot, .int .i64 p.n] 64))
  have HV0 := Lib.hid (Var.new w #[.bool p.slot, .int .i64 p.n] 64)
  clear hR
  go_enter Tryz.func148, Tryz.ntmps148
  go_wp2
  go_loopw [8] (fun iv wr => ∃ i : Nat, iv = .int .i64 (i : Int) ∧ i ≤ l.length ∧ Hid ((l.drop i).contains p = R) ∧ Hid (Below w.heap.size w wr) ∧ Hid (Var wr w.heap.size #[.bool p.slot, .int .i64 p.n] 64)) (fun iv _ => l.length - (intOf iv).toNat)
  case atStart => exact ⟨0, rfl, by omega, HR, HB0, HV0⟩
  case round =>
    clear HR HB0 HV0
    obtain ⟨i, rfl, hi, HR, HB, HV⟩ := hrel
    obtain ⟨q0, q1⟩ := cells2 HV.out
    by_cases hia : i < l.length
    · have x0 : (i : Int) < (l.length : Int) := by omega
      have x1 : (0 : Int) ≤ (i : Int) := by omega
      obtain ⟨g, o, rfl, -, -, f0, f1⟩ := (RdP.on h HB.out).get hia
      have hd := HR.out
      rw [List.drop_eq_getElem_cons hia, List.contains_cons] at hd
      obtain ⟨t, ht⟩ : ∃ t, l[i] = t := ⟨_, rfl⟩
      rw [ht] at hd f0 f1
      clear ht HR
      by_cases e1 : p.slot = t.slot
      case neg =>
        have hne : (p == t) = false := by rw [beq_eq_false_iff_ne]; exact fun e => e1 (by rw [e])
        rw [hne, Bool.false_or] at hd
        have HD := Lib.hid hd
        clear hd hne
        go_wp2
        go_region
        go_wp2
        go_roundw
        case rel => exact ⟨i + 1, by go_num, by omega, HD, Lib.hid (HB.out.trans ((below_drewN _ 1).mono HB.out.size)), HV⟩
        case measure => simp [intOf]; omega
      by_cases e2 : p.n = t.n
      case neg =>
        have hne : (p == t) = false := by rw [beq_eq_false_iff_ne]; exact fun e => e2 (by rw [e])
        rw [hne, Bool.false_or] at hd
        have HD := Lib.hid hd
        clear hd hne
        go_wp2
        go_region
        go_wp2
        go_roundw
        case rel => exact ⟨i + 1, by go_num, by omega, HD, Lib.hid (HB.out.trans ((below_drewN _ 1).mono HB.out.size)), HV⟩
        case measure => simp [intOf]; omega
      have heq : (p == t) = true := by
        rw [beq_iff_eq]
        obtain ⟨t1, t2⟩ := t
        obtain ⟨u1, u2⟩ := p
        dsimp only at e1 e2
        rw [e1, e2]
      rw [heq, Bool.true_or] at hd
      have HD := Lib.hid hd
      clear hd heq
      go_wp2
      go_region
      go_wp2
      go_ret
      exact ⟨⟨_, rfl, by rw [← HD.out]; simp⟩, HB.out.trans ((below_drewN _ 1).mono HB.out.size)⟩
    · obtain rfl : i = l.length := by omega
      have x0 : ¬ (l.length : Int) < (l.length : Int) := by omega
      have hd := HR.out
      rw [List.drop_length] at hd
      have HD := Lib.hid hd
      clear hd HR
      go_wp2
      go_ret
      exact ⟨⟨_, rfl, by rw [← HD.out]; simp⟩, HB.out⟩
theorem pcont_any (S : Nat → Prop) (A : Option Addr) (c : Nat) (l : List Pl) (hl : l.length ≤ 1000000) (p : Pl) (w : World) (h : RdP w S A l) :
    Calls Tryz.prog 109 #[.slice A l.length c, .agg #[.bool p.slot, .int .i64 p.n]] w fun e w' => e = .returned (.bool (l.contains p)) ∧ Below w.heap.size w w' := by
  have hb := (Below.refl w.heap.size w).alloc (Nat.le_refl _) (.cells #[.bool p.slot, .int .i64 p.n] 64)
  have HC := Lib.hid (pidx_any S A c l hl p _ (RdP.on h hb))
  have HB := Lib.hid hb
  obtain ⟨R, hR⟩ : ∃ R, l.contains p = R := ⟨_, rfl⟩
  rw [hR] at HC ⊢
  clear hb hR
  go_enter Tryz.func109, Tryz.ntmps109
  go_wp2_with (go_at_call 148; refine HC.out.mono ?_; rintro e w1 ⟨⟨z, rfl, hz⟩, hb⟩)
  go_ret
  exact ⟨by first | rfl | (rw [← hz]; rfl), HB.out.trans (hb.mono HB.out.size)⟩
set_option maxHeartbeats 4000000 in
set_option maxRecDepth 100000 in
theorem once_any (S : Nat → Prop) (A : Option Addr) (c : Nat) (l : List Pl) (hl : l.length ≤ 1000000) (hc : l.length ≤ c) (w : World) (h : RdP w S A l) :
    Calls Tryz.prog 59 #[.slice A l.length c] w fun e w' => e = .returned (.bool (Mc.once l)) ∧ Below w.heap.size w w' := by
  obtain ⟨R, hR⟩ : ∃ R, Mc.once l = R := ⟨_, rfl⟩
  rw [hR]
  have HR : Hid (Mc.onceGo (l.take 0) (l.drop 0) = R) := Lib.hid hR
  have HCo := Lib.hid (fun (i : Nat) (hi : i ≤ l.length) (p : Pl) W (hW : Below w.heap.size w W) => pcont_any S A c (l.take i) (by rw [List.length_take]; omega) p W (RdP.take (RdP.on h hW) i))
  clear hR
  go_enter Tryz.func59, Tryz.ntmps59
  go_wp2
  go_loopw [7] (fun iv wr => ∃ i : Nat, iv = .int .i64 (i : Int) ∧ i ≤ l.length ∧ Hid (Mc.onceGo (l.take i) (l.drop i) = R) ∧ Hid (Below w.heap.size w wr)) (fun iv _ => l.length - (intOf iv).toNat)
  case atStart => exact ⟨0, rfl, by omega, HR, Lib.hid (Below.refl _ _)⟩
  case round =>
    clear HR
    obtain ⟨i, rfl, hi, HR, HB⟩ := hrel
    by_cases hia : i < l.length
    · have x0 : (i : Int) < (l.length : Int) := by omega
      have x1 : (0 : Int) ≤ (i : Int) := by omega
      have x2 : (i : Int) ≤ (c : Int) := by omega
      obtain ⟨g, o, rfl, -, -, f0, f1⟩ := (RdP.on h HB.out).get hia
      have hd := HR.out
      have htk : l.take i ++ [l[i]] = l.take (i + 1) := (List.take_succ_eq_append_getElem hia).symm
      rw [List.drop_eq_getElem_cons hia, Mc.onceGo, htk] at hd
      have htl : (l.take i).length = i := by rw [List.length_take]; omega
      obtain ⟨t, ht⟩ : ∃ t, l[i] = t := ⟨_, rfl⟩
      rw [ht] at hd f0 f1
      have HCi := Lib.hid (HCo.out i hi t)
      rw [htl] at HCi
      obtain ⟨q, hq⟩ : ∃ q, (l.take i).contains t = q := ⟨_, rfl⟩
      rw [hq] at HCi hd
      have HD := Lib.hid hd
      clear ht HR hd htk hq htl
      go_upto_region 4 with fail
      have ha := (Below.refl wr.heap.size wr).alloc (Nat.le_refl _) (.cells #[.bool t.slot, .int .i64 t.n] 64)
      refine at_code (F := fun W => Hid (Below w.heap.size w W) ∧ Hid (Var W wr.heap.size #[.bool t.slot, .int .i64 t.n] 64)) ⟨Lib.hid (HB.out.trans (ha.mono HB.out.size)), Lib.hid (Var.new _ _ _)⟩ ?_
      clear ha f0 f1 HB
      obtain ⟨K4, hK4⟩ : ∃ K, wr.heap.size = K := ⟨_, rfl⟩
      simp only [hK4]
      clear hK4
      rintro W ⟨HB, HV⟩
      obtain ⟨q0, q1⟩ := cells2 HV.out
      have SS : (fun W' => W'.cell? ⟨K4, 0, none⟩ = some (.bool t.slot) ∧ W'.cell? ⟨K4, 1, none⟩ = some (.int .i64 t.n)) (World.drew W) := ⟨q0, q1⟩
      dsimp only at SS
      refine wp_region_held_drew (S := (fun W' => W'.cell? ⟨K4, 0, none⟩ = some (.bool t.slot) ∧ W'.cell? ⟨K4, 1, none⟩ = some (.int .i64 t.n))) (by kernel_rfl) ?_ (fun hHeld0 => ?_)
      · first | assumption | go_keep
      refine tk (i := 0) rfl ?_
      refine tk (i := 1) rfl ?_
      refine tk (i := 2) rfl ?_
      refine tk (i := 3) rfl ?_; (try simp only [zS, zN, zT, zC, zZ])
      refine wpAnyH_ready (rs := [4]) (by kernel_rfl) (by simp) ?_
      refine AllReadyH.cons rfl (fun K hK => ?_) AllReadyH.nil
      go_simp
      (refine (HCi.out (World.drew W) (HB.out.trans ((below_drewN W 1).mono HB.out.size))).mono ?_; rintro e w3 ⟨rfl, hb⟩; have BX := HB.out.trans (((below_drewN W 1).trans (hb.mono (Nat.le_refl _))).mono HB.out.size); have V3 := var_keep HV.out ((below_drewN W 1).trans (hb.mono (Nat.le_refl _))); have SS3 : (fun W' => W'.cell? ⟨K4, 0, none⟩ = some (.bool t.slot) ∧ W'.cell? ⟨K4, 1, none⟩ = some (.int .i64 t.n)) w3 := cells2 V3; dsimp only at SS3)
      (try dsimp only)
      refine hK.out _ _ ?_ (fun hHeld1 => ?_)
      · first | trivial | ((try dsimp only); first | assumption | trivial | go_keep)
      clear hK K hHeld0
      (try simp only [zS, zN, zT, zC, zZ])
      refine wpAnyH_done (by kernel_rfl) ?_ _
      (try dsimp only)
      rcases q with _ | _
      · have HD2 : Hid (Mc.onceGo (l.take (i + 1)) (l.drop (i + 1)) = R) := Lib.hid (by rw [← HD.out]; rfl)
        repeat (first | go_values | go_skip | go_guarded | go_step | go_upon)
        go_wp2_with fail
        go_roundw
        case rel => exact ⟨i + 1, by go_num, by omega, HD2, Lib.hid BX⟩
        case measure => simp [intOf]; omega
      · have HD2 : R = false := by rw [← HD.out]; rfl
        repeat (first | go_values | go_skip | go_guarded | go_step | go_upon)
        go_wp2_with fail
        go_ret
        exact ⟨by first | rfl | (rw [HD2]; rfl), BX⟩
    · obtain rfl : i = l.length := by omega
      have x0 : ¬ (l.length : Int) < (l.length : Int) := by omega
      have hd := HR.out
      rw [List.drop_length] at hd
      have HD := Lib.hid hd
      clear hd HR
      go_wp2
      go_ret
      exact ⟨by rw [← HD.out]; rfl, HB.out⟩
end Go.Proofs.YtadnfekogmjieaaGreatDoor
set_option linter.unusedVariables false
set_option linter.unusedSimpArgs false
namespace Go.Proofs.YtadnfekogmjieaaGreatDoor
open Go.RowKit
open Mc (Pl Mi Mf Th Wt)
structure B33 (w W : World) (tv mv fv : Array Value) : Prop where
  bel : Below w.heap.size w W
  th : Var W w.heap.size tv 97
  mi : Var W (w.heap.size + 1) mv 61
  mf : Var W (w.heap.size + 2) fv 39
theorem B33.new (w : World) (tv mv fv : Array Value) : B33 w (((w.alloc (.cells tv 97)).alloc (.cells mv 61)).alloc (.cells fv 39)) tv mv fv :=
  ⟨((((Below.refl w.heap.size w).alloc (Nat.le_refl _) _).alloc (by simp) _).alloc (by simp; omega) _), ((Var.new w _ _).alloc _).alloc _, by have h := (Var.new (w.alloc (.cells tv 97)) mv 61).alloc (.cells fv 39); simpa using h, by have h := Var.new ((w.alloc (.cells tv 97)).alloc (.cells mv 61)) fv 39; simpa using h⟩
theorem B33.below {w W W' : World} {tv mv fv : Array Value} (h : B33 w W tv mv fv) (hb : Below W.heap.size W W') : B33 w W' tv mv fv := ⟨h.bel.trans (hb.mono h.bel.size), var_keep h.th hb, var_keep h.mi hb, var_keep h.mf hb⟩
set_option maxHeartbeats 16000000 in
set_option maxRecDepth 100000 in
theorem mright_any (t : Th) (hf : t.Few) (X : TX) (x : Mi) (hd : x.d.length ≤ 1000000) (hs : x.s.length ≤ 1000000) (ht : x.tos.length ≤ 1000000) (D : Option Addr) (c1 : Nat) (hc : x.d.length ≤ c1) (E : Option Addr) (c2 : Nat) (T : Option Addr) (c3 : Nat) (f : Mf) (P : Option Addr) (p1 : Nat) (R0 : Option Addr) (p2 : Nat) (C : Option Addr) (p3 : Nat) (regs : Int) (hsl : 0 ≤ f.slots ∧ f.slots ≤ 1000000) (hr : 0 ≤ regs ∧ regs ≤ 1000000) (hcl : f.code.length ≤ 1000000) (S0 S1 : Nat → Prop) (w : World) (G : GlobM w) (h : ThRd S0 w t X) (hm : MiRd S1 w x D E T) :
    Calls Tryz.prog 27 #[.agg (thA t X), .agg (miV x D c1 E c2 T c3), .agg (mfV f P p1 R0 p2 C p3), .int .i64 regs] w fun e w' => e = .returned (.bool (Mc.rightI t x f regs)) ∧ Below w.heap.size w w' := by
  obtain ⟨R, hR⟩ : ∃ R, Mc.rightI t x f regs = R := ⟨_, rfl⟩
  rw [hR]
  unfold Mc.rightI Mc.fits at hR
  have hB0 := Lib.hid (B33.new w (thA t X) (miV x D c1 E c2 T c3) (mfV f P p1 R0 p2 C p3))
  have HSp := Lib.hid (fun W (hb : Below w.heap.size w W) => spare_any x D c1 E c2 T c3 W (G.r.below hb))
  have HWa := Lib.hid (fun hk W (hb : Below w.heap.size w W) => mwants_any t hf X x hk D c1 E c2 T c3 f P p1 R0 p2 C p3 S0 W (G.g.below hb) (h.on hb))
  have HPd := Lib.hid (fun W (hb : Below w.heap.size w W) => mplaces_any S1 D c1 x.d hd f P p1 R0 p2 C p3 regs hsl hr W (RdP.on hm.d hb))
  have HPs := Lib.hid (fun W (hb : Below w.heap.size w W) => mplaces_any S1 E c2 x.s hs f P p1 R0 p2 C p3 regs hsl hr W (RdP.on hm.s hb))
  have HOn := Lib.hid (fun W (hb : Below w.heap.size w W) => once_any S1 D c1 x.d hd hc W (RdP.on hm.d hb))
  have HTo := Lib.hid (fun W (hb : Below w.heap.size w W) V4 => anyBadT_any S1 T c3 x.tos ht f P p1 R0 p2 C p3 hcl (w.heap.size + 2) W V4 (RdZ.on hm.t hb))
  have hany : x.tos.all (Mc.toOk f.code.length) = !x.tos.any (fun p => !Mc.toOk f.code.length p) := by rw [List.not_any_eq_all_not]; simp
  rw [hany] at hR
  clear hany G h hm
  have hkr : Mc.spare x = true → ∃ k : Nat, x.kind = k ∧ k ≤ 23 := fun e => by
    unfold Mc.spare at e
    simp only [Bool.and_eq_true] at e
    exact within_nat e.1
  obtain ⟨sp, e1⟩ : ∃ q, Mc.spare x = q := ⟨_, rfl⟩
  obtain ⟨a1, e2⟩ : ∃ q, x.d.all (Mc.plOk f.slots regs) = q := ⟨_, rfl⟩
  obtain ⟨a2, e3⟩ : ∃ q, x.s.all (Mc.plOk f.slots regs) = q := ⟨_, rfl⟩
  obtain ⟨a3, e4⟩ : ∃ q, Mc.once x.d = q := ⟨_, rfl⟩
  obtain ⟨a4, e5⟩ : ∃ q, x.tos.any (fun p => !Mc.toOk f.code.length p) = q := ⟨_, rfl⟩
  rw [e1] at HSp hkr
  rw [e2] at HPd
  rw [e3] at HPs
  rw [e4] at HOn
  rw [e5] at HTo
  rw [e1, e2, e3, e4, e5] at hR
  obtain ⟨⟨wd, ws, wt, wm, wo⟩, e6⟩ : ∃ q, Mc.want t x f.rs.length = q := ⟨_, rfl⟩
  rw [e6] at HWa hR
  unfold wtV at HWa
  dsimp only at HWa hR
  obtain ⟨b1, l1⟩ : ∃ q, decide (x.d.length = wd) = q := ⟨_, rfl⟩
  obtain ⟨b2, l2⟩ : ∃ q, decide (x.s.length = ws) = q := ⟨_, rfl⟩
  obtain ⟨b3, l3⟩ : ∃ q, decide (wt ≤ x.tos.length) = q := ⟨_, rfl⟩
  obtain ⟨b4, l4⟩ : ∃ q, decide (x.tos.length ≤ wt) = q := ⟨_, rfl⟩
  have k1 : ((x.d.length : Int) != (wd : Int)) = !b1 := by rw [← l1, Bool.eq_iff_iff]; simp; omega
  have k2 : ((x.s.length : Int) != (ws : Int)) = !b2 := by rw [← l2, Bool.eq_iff_iff]; simp; omega
  have k3 : decide ((x.tos.length : Int) < (wt : Int)) = !b3 := by rw [← l3, Bool.eq_iff_iff]; simp
  have k4 : decide ((wt : Int) < (x.tos.length : Int)) = !b4 := by rw [← l4, Bool.eq_iff_iff]; simp
  rw [l1, l2, l3, l4] at hR
  clear e1 e2 e3 e4 e5 e6 l1 l2 l3 l4
  unfold thA miV mfV at HWa
  unfold miV at HSp
  unfold mfV at HPd HPs
  go_enter Tryz.func27, Tryz.ntmps27
  go_upto_region 1 with fail
  refine at_code (F := fun W => Hid (B33 w W (thA t X) (miV x D c1 E c2 T c3) (mfV f P p1 R0 p2 C p3))) (Lib.hid hB0.out) ?_
  clear hB0
  intro W S
  obtain ⟨⟨g0, g1, g2, g3, g4, g5, g6, g7⟩, g8, g9, g10, g11, g12, g13, g14, g15⟩ := thA_cells S.out.th
  obtain ⟨m0, m1, m2, m3, m4, m5, m6, m7, m8⟩ := miV_cells S.out.mi
  obtain ⟨y0, y1, y2, y3⟩ := mfV_cells S.out.mf
  rcases sp with _ | _
  · go_wp2_with (go_at_call 55; refine (HSp.out _ S.out.bel).mono ?_; rintro e w1 ⟨rfl, hb⟩; have BX := S.out.bel.trans (hb.mono S.out.bel.size))
    go_ret
    exact ⟨by rw [← hR]; rfl, BX⟩
  have hkx := hkr rfl
  rw [Bool.true_and] at hR
  go_upto_region 3 with (go_at_call 55; refine (HSp.out _ S.out.bel).mono ?_; rintro e w1 ⟨rfl, hb⟩; have S1' := S.out.below hb)
  refine at_code (F := fun W => Hid (B33 w W (thA t X) (miV x D c1 E c2 T c3) (mfV f P p1 R0 p2 C p3))) (Lib.hid S1') ?_
  clear S S1' hb HSp g0 g1 g2 g3 g4 g5 g6 g7 g8 g9 g10 g11 g12 g13 g14 g15 m0 m1 m2 m3 m4 m5 m6 m7 m8 y0 y1 y2 y3
  intro W S
  obtain ⟨⟨g0, g1, g2, g3, g4, g5, g6, g7⟩, g8, g9, g10, g11, g12, g13, g14, g15⟩ := thA_cells S.out.th
  obtain ⟨m0, m1, m2, m3, m4, m5, m6, m7, m8⟩ := miV_cells S.out.mi
  obtain ⟨y0, y1, y2, y3⟩ := mfV_cells S.out.mf
  go_upto_region 4 with (go_at_call 56; refine (HWa.out hkx _ S.out.bel).mono ?_; rintro e w1 ⟨rfl, hb⟩; have S1' := S.out.below hb)
  refine at_code (F := fun W => Hid (B33 w W (thA t X) (miV x D c1 E c2 T c3) (mfV f P p1 R0 p2 C p3)) ∧ Hid (Var W w1.heap.size #[.int .i64 (wd : Int), .int .i64 (ws : Int), .int .i64 (wt : Int), .bool wm, .bool wo] 130)) ⟨Lib.hid (S1'.below ((Below.refl _ _).alloc (Nat.le_refl _) _)), Lib.hid (Var.new _ _ _)⟩ ?_
  clear S S1' hb HWa g0 g1 g2 g3 g4 g5 g6 g7 g8 g9 g10 g11 g12 g13 g14 g15 m0 m1 m2 m3 m4 m5 m6 m7 m8 y0 y1 y2 y3
  obtain ⟨K4, hK4⟩ : ∃ K, w1.heap.size = K := ⟨_, rfl⟩
  simp only [hK4]
  clear hK4
  rintro W ⟨S, HV⟩
  obtain ⟨m0, m1, m2, m3, m4, m5, m6, m7, m8⟩ := miV_cells S.out.mi
  obtain ⟨y0, y1, y2, y3⟩ := mfV_cells S.out.mf
  obtain ⟨⟨v0, v1, v2, v3, v4⟩, -⟩ := cells5 HV.out
  rcases wo with _ | _
  · go_wp2_with fail
    go_ret
    exact ⟨by rw [← hR]; simp, S.out.bel⟩
  rcases b1 with _ | _
  · go_wp2_with fail
    go_ret
    exact ⟨by rw [← hR]; simp, S.out.bel⟩
  rcases b2 with _ | _
  · go_wp2_with fail
    go_ret
    exact ⟨by rw [← hR]; simp, S.out.bel⟩
  rcases b3 with _ | _
  · have p3 : (x.tos.length : Int) < (wt : Int) := of_decide_eq_true k3
    go_wp2_with fail
    go_ret
    exact ⟨by rw [← hR]; simp, S.out.bel⟩
  have p3 : ¬ (x.tos.length : Int) < (wt : Int) := of_decide_eq_false k3
  have hmo : b4 = true ∨ b4 = false := by cases b4 <;> simp
  clear hmo
  rcases b4 with _ | _
  · have p4 : (wt : Int) < (x.tos.length : Int) := of_decide_eq_true k4
    rcases wm with _ | _
    · go_wp2_with fail
      go_ret
      exact ⟨by rw [← hR]; simp, S.out.bel⟩
    rcases a1 with _ | _
    · skip
      go_wp2_with (first
        | (go_at_call 58; first | (refine (HPd.out _ S.out.bel).mono ?_; clear HPd; rintro e w2 ⟨rfl, hb⟩; have S := Lib.hid (S.out.below hb); clear m0 m1 m2 m3 m4 m5 m6 m7 m8 y0 y1 y2 y3; obtain ⟨m0, m1, m2, m3, m4, m5, m6, m7, m8⟩ := miV_cells S.out.mi; obtain ⟨y0, y1, y2, y3⟩ := mfV_cells S.out.mf) | (refine (HPs.out _ S.out.bel).mono ?_; clear HPs; rintro e w2 ⟨rfl, hb⟩; have S := Lib.hid (S.out.below hb); clear m0 m1 m2 m3 m4 m5 m6 m7 m8 y0 y1 y2 y3; obtain ⟨m0, m1, m2, m3, m4, m5, m6, m7, m8⟩ := miV_cells S.out.mi; obtain ⟨y0, y1, y2, y3⟩ := mfV_cells S.out.mf))
        | (go_at_call 59; refine (HOn.out _ S.out.bel).mono ?_; rintro e w3 ⟨rfl, hb⟩; have S := Lib.hid (S.out.below hb); clear m0 m1 m2 m3 m4 m5 m6 m7 m8 y0 y1 y2 y3; obtain ⟨m0, m1, m2, m3, m4, m5, m6, m7, m8⟩ := miV_cells S.out.mi; obtain ⟨y0, y1, y2, y3⟩ := mfV_cells S.out.mf)
        | (go_at_call 60; refine (HTo.out _ S.out.bel S.out.mf).mono ?_; rintro e w4 ⟨rfl, hb⟩; have S := Lib.hid (S.out.below hb); clear m0 m1 m2 m3 m4 m5 m6 m7 m8 y0 y1 y2 y3; obtain ⟨m0, m1, m2, m3, m4, m5, m6, m7, m8⟩ := miV_cells S.out.mi; obtain ⟨y0, y1, y2, y3⟩ := mfV_cells S.out.mf))
      go_ret
      exact ⟨by rw [← hR]; simp, S.out.bel⟩
    rcases a2 with _ | _
    · skip
      go_wp2_with (first
        | (go_at_call 58; first | (refine (HPd.out _ S.out.bel).mono ?_; clear HPd; rintro e w2 ⟨rfl, hb⟩; have S := Lib.hid (S.out.below hb); clear m0 m1 m2 m3 m4 m5 m6 m7 m8 y0 y1 y2 y3; obtain ⟨m0, m1, m2, m3, m4, m5, m6, m7, m8⟩ := miV_cells S.out.mi; obtain ⟨y0, y1, y2, y3⟩ := mfV_cells S.out.mf) | (refine (HPs.out _ S.out.bel).mono ?_; clear HPs; rintro e w2 ⟨rfl, hb⟩; have S := Lib.hid (S.out.below hb); clear m0 m1 m2 m3 m4 m5 m6 m7 m8 y0 y1 y2 y3; obtain ⟨m0, m1, m2, m3, m4, m5, m6, m7, m8⟩ := miV_cells S.out.mi; obtain ⟨y0, y1, y2, y3⟩ := mfV_cells S.out.mf))
        | (go_at_call 59; refine (HOn.out _ S.out.bel).mono ?_; rintro e w3 ⟨rfl, hb⟩; have S := Lib.hid (S.out.below hb); clear m0 m1 m2 m3 m4 m5 m6 m7 m8 y0 y1 y2 y3; obtain ⟨m0, m1, m2, m3, m4, m5, m6, m7, m8⟩ := miV_cells S.out.mi; obtain ⟨y0, y1, y2, y3⟩ := mfV_cells S.out.mf)
        | (go_at_call 60; refine (HTo.out _ S.out.bel S.out.mf).mono ?_; rintro e w4 ⟨rfl, hb⟩; have S := Lib.hid (S.out.below hb); clear m0 m1 m2 m3 m4 m5 m6 m7 m8 y0 y1 y2 y3; obtain ⟨m0, m1, m2, m3, m4, m5, m6, m7, m8⟩ := miV_cells S.out.mi; obtain ⟨y0, y1, y2, y3⟩ := mfV_cells S.out.mf))
      go_ret
      exact ⟨by rw [← hR]; simp, S.out.bel⟩
    rcases a3 with _ | _
    · skip
      go_wp2_with (first
        | (go_at_call 58; first | (refine (HPd.out _ S.out.bel).mono ?_; clear HPd; rintro e w2 ⟨rfl, hb⟩; have S := Lib.hid (S.out.below hb); clear m0 m1 m2 m3 m4 m5 m6 m7 m8 y0 y1 y2 y3; obtain ⟨m0, m1, m2, m3, m4, m5, m6, m7, m8⟩ := miV_cells S.out.mi; obtain ⟨y0, y1, y2, y3⟩ := mfV_cells S.out.mf) | (refine (HPs.out _ S.out.bel).mono ?_; clear HPs; rintro e w2 ⟨rfl, hb⟩; have S := Lib.hid (S.out.below hb); clear m0 m1 m2 m3 m4 m5 m6 m7 m8 y0 y1 y2 y3; obtain ⟨m0, m1, m2, m3, m4, m5, m6, m7, m8⟩ := miV_cells S.out.mi; obtain ⟨y0, y1, y2, y3⟩ := mfV_cells S.out.mf))
        | (go_at_call 59; refine (HOn.out _ S.out.bel).mono ?_; rintro e w3 ⟨rfl, hb⟩; have S := Lib.hid (S.out.below hb); clear m0 m1 m2 m3 m4 m5 m6 m7 m8 y0 y1 y2 y3; obtain ⟨m0, m1, m2, m3, m4, m5, m6, m7, m8⟩ := miV_cells S.out.mi; obtain ⟨y0, y1, y2, y3⟩ := mfV_cells S.out.mf)
        | (go_at_call 60; refine (HTo.out _ S.out.bel S.out.mf).mono ?_; rintro e w4 ⟨rfl, hb⟩; have S := Lib.hid (S.out.below hb); clear m0 m1 m2 m3 m4 m5 m6 m7 m8 y0 y1 y2 y3; obtain ⟨m0, m1, m2, m3, m4, m5, m6, m7, m8⟩ := miV_cells S.out.mi; obtain ⟨y0, y1, y2, y3⟩ := mfV_cells S.out.mf))
      go_ret
      exact ⟨by rw [← hR]; simp, S.out.bel⟩
    go_wp2_with (first
      | (go_at_call 58; first | (refine (HPd.out _ S.out.bel).mono ?_; clear HPd; rintro e w2 ⟨rfl, hb⟩; have S := Lib.hid (S.out.below hb); clear m0 m1 m2 m3 m4 m5 m6 m7 m8 y0 y1 y2 y3; obtain ⟨m0, m1, m2, m3, m4, m5, m6, m7, m8⟩ := miV_cells S.out.mi; obtain ⟨y0, y1, y2, y3⟩ := mfV_cells S.out.mf) | (refine (HPs.out _ S.out.bel).mono ?_; clear HPs; rintro e w2 ⟨rfl, hb⟩; have S := Lib.hid (S.out.below hb); clear m0 m1 m2 m3 m4 m5 m6 m7 m8 y0 y1 y2 y3; obtain ⟨m0, m1, m2, m3, m4, m5, m6, m7, m8⟩ := miV_cells S.out.mi; obtain ⟨y0, y1, y2, y3⟩ := mfV_cells S.out.mf))
      | (go_at_call 59; refine (HOn.out _ S.out.bel).mono ?_; rintro e w3 ⟨rfl, hb⟩; have S := Lib.hid (S.out.below hb); clear m0 m1 m2 m3 m4 m5 m6 m7 m8 y0 y1 y2 y3; obtain ⟨m0, m1, m2, m3, m4, m5, m6, m7, m8⟩ := miV_cells S.out.mi; obtain ⟨y0, y1, y2, y3⟩ := mfV_cells S.out.mf)
      | (go_at_call 60; refine (HTo.out _ S.out.bel S.out.mf).mono ?_; rintro e w4 ⟨rfl, hb⟩; have S := Lib.hid (S.out.below hb); clear m0 m1 m2 m3 m4 m5 m6 m7 m8 y0 y1 y2 y3; obtain ⟨m0, m1, m2, m3, m4, m5, m6, m7, m8⟩ := miV_cells S.out.mi; obtain ⟨y0, y1, y2, y3⟩ := mfV_cells S.out.mf))
    go_ret
    exact ⟨by rw [← hR]; simp, S.out.bel⟩
  · have p4 : ¬ (wt : Int) < (x.tos.length : Int) := of_decide_eq_false k4
    rcases a1 with _ | _
    · skip
      go_wp2_with (first
        | (go_at_call 58; first | (refine (HPd.out _ S.out.bel).mono ?_; clear HPd; rintro e w2 ⟨rfl, hb⟩; have S := Lib.hid (S.out.below hb); clear m0 m1 m2 m3 m4 m5 m6 m7 m8 y0 y1 y2 y3; obtain ⟨m0, m1, m2, m3, m4, m5, m6, m7, m8⟩ := miV_cells S.out.mi; obtain ⟨y0, y1, y2, y3⟩ := mfV_cells S.out.mf) | (refine (HPs.out _ S.out.bel).mono ?_; clear HPs; rintro e w2 ⟨rfl, hb⟩; have S := Lib.hid (S.out.below hb); clear m0 m1 m2 m3 m4 m5 m6 m7 m8 y0 y1 y2 y3; obtain ⟨m0, m1, m2, m3, m4, m5, m6, m7, m8⟩ := miV_cells S.out.mi; obtain ⟨y0, y1, y2, y3⟩ := mfV_cells S.out.mf))
        | (go_at_call 59; refine (HOn.out _ S.out.bel).mono ?_; rintro e w3 ⟨rfl, hb⟩; have S := Lib.hid (S.out.below hb); clear m0 m1 m2 m3 m4 m5 m6 m7 m8 y0 y1 y2 y3; obtain ⟨m0, m1, m2, m3, m4, m5, m6, m7, m8⟩ := miV_cells S.out.mi; obtain ⟨y0, y1, y2, y3⟩ := mfV_cells S.out.mf)
        | (go_at_call 60; refine (HTo.out _ S.out.bel S.out.mf).mono ?_; rintro e w4 ⟨rfl, hb⟩; have S := Lib.hid (S.out.below hb); clear m0 m1 m2 m3 m4 m5 m6 m7 m8 y0 y1 y2 y3; obtain ⟨m0, m1, m2, m3, m4, m5, m6, m7, m8⟩ := miV_cells S.out.mi; obtain ⟨y0, y1, y2, y3⟩ := mfV_cells S.out.mf))
      go_ret
      exact ⟨by rw [← hR]; simp, S.out.bel⟩
    rcases a2 with _ | _
    · skip
      go_wp2_with (first
        | (go_at_call 58; first | (refine (HPd.out _ S.out.bel).mono ?_; clear HPd; rintro e w2 ⟨rfl, hb⟩; have S := Lib.hid (S.out.below hb); clear m0 m1 m2 m3 m4 m5 m6 m7 m8 y0 y1 y2 y3; obtain ⟨m0, m1, m2, m3, m4, m5, m6, m7, m8⟩ := miV_cells S.out.mi; obtain ⟨y0, y1, y2, y3⟩ := mfV_cells S.out.mf) | (refine (HPs.out _ S.out.bel).mono ?_; clear HPs; rintro e w2 ⟨rfl, hb⟩; have S := Lib.hid (S.out.below hb); clear m0 m1 m2 m3 m4 m5 m6 m7 m8 y0 y1 y2 y3; obtain ⟨m0, m1, m2, m3, m4, m5, m6, m7, m8⟩ := miV_cells S.out.mi; obtain ⟨y0, y1, y2, y3⟩ := mfV_cells S.out.mf))
        | (go_at_call 59; refine (HOn.out _ S.out.bel).mono ?_; rintro e w3 ⟨rfl, hb⟩; have S := Lib.hid (S.out.below hb); clear m0 m1 m2 m3 m4 m5 m6 m7 m8 y0 y1 y2 y3; obtain ⟨m0, m1, m2, m3, m4, m5, m6, m7, m8⟩ := miV_cells S.out.mi; obtain ⟨y0, y1, y2, y3⟩ := mfV_cells S.out.mf)
        | (go_at_call 60; refine (HTo.out _ S.out.bel S.out.mf).mono ?_; rintro e w4 ⟨rfl, hb⟩; have S := Lib.hid (S.out.below hb); clear m0 m1 m2 m3 m4 m5 m6 m7 m8 y0 y1 y2 y3; obtain ⟨m0, m1, m2, m3, m4, m5, m6, m7, m8⟩ := miV_cells S.out.mi; obtain ⟨y0, y1, y2, y3⟩ := mfV_cells S.out.mf))
      go_ret
      exact ⟨by rw [← hR]; simp, S.out.bel⟩
    rcases a3 with _ | _
    · skip
      go_wp2_with (first
        | (go_at_call 58; first | (refine (HPd.out _ S.out.bel).mono ?_; clear HPd; rintro e w2 ⟨rfl, hb⟩; have S := Lib.hid (S.out.below hb); clear m0 m1 m2 m3 m4 m5 m6 m7 m8 y0 y1 y2 y3; obtain ⟨m0, m1, m2, m3, m4, m5, m6, m7, m8⟩ := miV_cells S.out.mi; obtain ⟨y0, y1, y2, y3⟩ := mfV_cells S.out.mf) | (refine (HPs.out _ S.out.bel).mono ?_; clear HPs; rintro e w2 ⟨rfl, hb⟩; have S := Lib.hid (S.out.below hb); clear m0 m1 m2 m3 m4 m5 m6 m7 m8 y0 y1 y2 y3; obtain ⟨m0, m1, m2, m3, m4, m5, m6, m7, m8⟩ := miV_cells S.out.mi; obtain ⟨y0, y1, y2, y3⟩ := mfV_cells S.out.mf))
        | (go_at_call 59; refine (HOn.out _ S.out.bel).mono ?_; rintro e w3 ⟨rfl, hb⟩; have S := Lib.hid (S.out.below hb); clear m0 m1 m2 m3 m4 m5 m6 m7 m8 y0 y1 y2 y3; obtain ⟨m0, m1, m2, m3, m4, m5, m6, m7, m8⟩ := miV_cells S.out.mi; obtain ⟨y0, y1, y2, y3⟩ := mfV_cells S.out.mf)
        | (go_at_call 60; refine (HTo.out _ S.out.bel S.out.mf).mono ?_; rintro e w4 ⟨rfl, hb⟩; have S := Lib.hid (S.out.below hb); clear m0 m1 m2 m3 m4 m5 m6 m7 m8 y0 y1 y2 y3; obtain ⟨m0, m1, m2, m3, m4, m5, m6, m7, m8⟩ := miV_cells S.out.mi; obtain ⟨y0, y1, y2, y3⟩ := mfV_cells S.out.mf))
      go_ret
      exact ⟨by rw [← hR]; simp, S.out.bel⟩
    go_wp2_with (first
      | (go_at_call 58; first | (refine (HPd.out _ S.out.bel).mono ?_; clear HPd; rintro e w2 ⟨rfl, hb⟩; have S := Lib.hid (S.out.below hb); clear m0 m1 m2 m3 m4 m5 m6 m7 m8 y0 y1 y2 y3; obtain ⟨m0, m1, m2, m3, m4, m5, m6, m7, m8⟩ := miV_cells S.out.mi; obtain ⟨y0, y1, y2, y3⟩ := mfV_cells S.out.mf) | (refine (HPs.out _ S.out.bel).mono ?_; clear HPs; rintro e w2 ⟨rfl, hb⟩; have S := Lib.hid (S.out.below hb); clear m0 m1 m2 m3 m4 m5 m6 m7 m8 y0 y1 y2 y3; obtain ⟨m0, m1, m2, m3, m4, m5, m6, m7, m8⟩ := miV_cells S.out.mi; obtain ⟨y0, y1, y2, y3⟩ := mfV_cells S.out.mf))
      | (go_at_call 59; refine (HOn.out _ S.out.bel).mono ?_; rintro e w3 ⟨rfl, hb⟩; have S := Lib.hid (S.out.below hb); clear m0 m1 m2 m3 m4 m5 m6 m7 m8 y0 y1 y2 y3; obtain ⟨m0, m1, m2, m3, m4, m5, m6, m7, m8⟩ := miV_cells S.out.mi; obtain ⟨y0, y1, y2, y3⟩ := mfV_cells S.out.mf)
      | (go_at_call 60; refine (HTo.out _ S.out.bel S.out.mf).mono ?_; rintro e w4 ⟨rfl, hb⟩; have S := Lib.hid (S.out.below hb); clear m0 m1 m2 m3 m4 m5 m6 m7 m8 y0 y1 y2 y3; obtain ⟨m0, m1, m2, m3, m4, m5, m6, m7, m8⟩ := miV_cells S.out.mi; obtain ⟨y0, y1, y2, y3⟩ := mfV_cells S.out.mf))
    go_ret
    exact ⟨by rw [← hR]; simp, S.out.bel⟩
end Go.Proofs.YtadnfekogmjieaaGreatDoor
