/-
  Layer 51, the program: places, and the closures that check places and targets. (Printed by gen_mc8.py.)
-/
import Derived.Test.YtadnfekogmjieaaGreatDoorEMC7
import Derived.Test.YtadnfekogmjieaaGreatDoorEMS2
set_option linter.unusedVariables false
set_option linter.unusedSimpArgs false
namespace Go.Proofs.YtadnfekogmjieaaGreatDoor
open Go.RowKit
open Mc (Pl Mi Mf Th Wt)
theorem wrap_pred_int {z : Int} (h0 : 0 ≤ z) (h1 : z ≤ 1000000) : IntKind.i64.wrap (z - 1) = z - 1 := by rw [IntKind.wrap_i64]; omega
set_option maxHeartbeats 2000000 in
set_option maxRecDepth 100000 in
/-- The closure of places. -/
theorem plcap_any (p : Pl) (f : Mf) (P : Option Addr) (p1 : Nat) (R0 : Option Addr) (p2 : Nat) (C : Option Addr) (p3 : Nat) (regs : Int) (hs : 0 ≤ f.slots ∧ f.slots ≤ 1000000) (hr : 0 ≤ regs ∧ regs ≤ 1000000) (K4 K5 : Nat) (w : World) (V4 : Var w K4 (mfV f P p1 R0 p2 C p3) 39) (V5 : Var w K5 #[.int .i64 regs] 3) :
    Calls Tryz.prog 108 #[.agg #[.bool p.slot, .int .i64 p.n], .pointer (some ⟨K4, 0, none⟩), .pointer (some ⟨K5, 0, none⟩)] w fun e w' => e = .returned (.bool (!Mc.plOk f.slots regs p)) ∧ Below w.heap.size w w' := by
  have w1 := wrap_pred_int hs.1 hs.2
  have w2 := wrap_pred_int hr.1 hr.2
  obtain ⟨b, n⟩ := p
  unfold Mc.plOk
  dsimp only
  have ha := (Below.refl w.heap.size w).alloc (Nat.le_refl _) (.cells #[.bool b, .int .i64 n] 64)
  obtain ⟨y0, y1, y2, y3⟩ := mfV_cells (var_keep V4 ha)
  have q0 : (w.alloc (.cells #[.bool b, .int .i64 n] 64)).cell? ⟨K5, 0, none⟩ = some (.int .i64 regs) := (var_keep V5 ha).cells 0
  have HB := Lib.hid ha
  clear ha V4 V5
  rcases b with _ | _
  all_goals
    go_enter Tryz.func108, Tryz.ntmps108
    go_wp2_with (go_at_call 24; refine (within_any _ _ _).mono ?_; rintro e w1 ⟨rfl, rfl⟩)
    go_ret
    exact ⟨rfl, HB.out⟩
/-- The closure of right. -/
theorem tocap_any (z : Int) (f : Mf) (P : Option Addr) (p1 : Nat) (R0 : Option Addr) (p2 : Nat) (C : Option Addr) (p3 : Nat) (hl : f.code.length ≤ 1000000) (K4 : Nat) (w : World) (V4 : Var w K4 (mfV f P p1 R0 p2 C p3) 39) :
    Calls Tryz.prog 57 #[.int .i64 z, .pointer (some ⟨K4, 0, none⟩)] w fun e w' => e = .returned (.bool (!Mc.toOk f.code.length z)) ∧ Below w.heap.size w w' := by
  have w1 := wrap_pred hl
  unfold Mc.toOk
  obtain ⟨y0, y1, y2, y3⟩ := mfV_cells V4
  clear V4
  go_enter Tryz.func57, Tryz.ntmps57
  go_wp2_with (go_at_call 24; refine (within_any _ _ _).mono ?_; rintro e w1 ⟨rfl, rfl⟩)
  go_ret
  exact ⟨rfl, Below.refl _ _⟩
set_option maxHeartbeats 2000000 in
set_option maxRecDepth 100000 in
theorem anyBadP_idx (S : Nat → Prop) (A : Option Addr) (c : Nat) (l : List Pl) (hl : l.length ≤ 1000000) (f : Mf) (P : Option Addr) (p1 : Nat) (R0 : Option Addr) (p2 : Nat) (C : Option Addr) (p3 : Nat) (regs : Int) (hs : 0 ≤ f.slots ∧ f.slots ≤ 1000000) (hr : 0 ≤ regs ∧ regs ≤ 1000000) (K4 K5 : Nat) (w : World) (V4 : Var w K4 (mfV f P p1 R0 p2 C p3) 39) (V5 : Var w K5 #[.int .i64 regs] 3) (h : RdP w S A l) :
    Calls Tryz.prog 147 #[.slice A l.length c, .func (.func 108) #[] #[.pointer (some ⟨K4, 0, none⟩), .pointer (some ⟨K5, 0, none⟩)]] w fun e w' => (∃ z : Int, e = .returned (.int .i64 z) ∧ decide (0 ≤ z) = l.any (fun p => !Mc.plOk f.slots regs p)) ∧ Below w.heap.size w w' := by
  obtain ⟨R, hR⟩ : ∃ R, l.any (fun p => !Mc.plOk f.slots regs p) = R := ⟨_, rfl⟩
  rw [hR]
  have HR : Hid (((l.drop 0).any (fun p => !Mc.plOk f.slots regs p)) = R) := Lib.hid hR
  clear hR
  have HPc := Lib.hid (fun (p : Pl) W (hb : Below w.heap.size w W) => plcap_any p f P p1 R0 p2 C p3 regs hs hr K4 K5 W (var_keep V4 hb) (var_keep V5 hb))
  go_enter Tryz.func147, Tryz.ntmps147
  go_wp2
  go_loopw [8] (fun iv wr => ∃ i : Nat, iv = .int .i64 (i : Int) ∧ i ≤ l.length ∧ Hid (((l.drop i).any (fun p => !Mc.plOk f.slots regs p)) = R) ∧ Below w.heap.size w wr) (fun iv _ => l.length - (intOf iv).toNat)
  case atStart => exact ⟨0, rfl, by omega, HR, Below.refl _ _⟩
  case round =>
    clear HR
    obtain ⟨i, rfl, hi, HR, hB⟩ := hrel
    by_cases hia : i < l.length
    · have x0 : (i : Int) < (l.length : Int) := by omega
      have x1 : (0 : Int) ≤ (i : Int) := by omega
      obtain ⟨g, o, rfl, -, -, f0, f1⟩ := (RdP.on h hB).get hia
      have hd := HR.out
      rw [List.drop_eq_getElem_cons hia, List.any_cons] at hd
      obtain ⟨p, hp⟩ : ∃ p, l[i] = p := ⟨_, rfl⟩
      rw [hp] at hd f0 f1
      clear hp HR
      have HB := Lib.hid hB
      clear hB
      rcases hq : (!Mc.plOk f.slots regs p) with _ | _
      · rw [hq, Bool.false_or] at hd
        have HD := Lib.hid hd
        clear hd
        have hq' := Lib.hid hq
        clear hq
        go_wp2_with (go_at_call 108; refine (HPc.out p _ HB.out).mono ?_; rintro e w1 ⟨rfl, hb⟩; rw [hq'.out])
        go_roundw
        case rel => exact ⟨i + 1, by go_num, by omega, HD, HB.out.trans (hb.mono HB.out.size)⟩
        case measure => simp [intOf] <;> omega
      · rw [hq, Bool.true_or] at hd
        have HD := Lib.hid hd
        clear hd
        have hq' := Lib.hid hq
        clear hq
        go_wp2_with (go_at_call 108; refine (HPc.out p _ HB.out).mono ?_; rintro e w1 ⟨rfl, hb⟩; rw [hq'.out])
        go_ret
        exact ⟨⟨_, rfl, by rw [← HD.out]; simp⟩, HB.out.trans (hb.mono HB.out.size)⟩
    · have hi2 : i = l.length := by omega
      subst hi2
      have x0 : ¬ (l.length : Int) < (l.length : Int) := by omega
      have hd := HR.out
      rw [List.drop_length] at hd
      have HD := Lib.hid hd
      clear hd HR
      go_wp2
      go_ret
      exact ⟨⟨_, rfl, by rw [← HD.out]; simp⟩, hB⟩
theorem anyBadP_any (S : Nat → Prop) (A : Option Addr) (c : Nat) (l : List Pl) (hl : l.length ≤ 1000000) (f : Mf) (P : Option Addr) (p1 : Nat) (R0 : Option Addr) (p2 : Nat) (C : Option Addr) (p3 : Nat) (regs : Int) (hs : 0 ≤ f.slots ∧ f.slots ≤ 1000000) (hr : 0 ≤ regs ∧ regs ≤ 1000000) (K4 K5 : Nat) (w : World) (V4 : Var w K4 (mfV f P p1 R0 p2 C p3) 39) (V5 : Var w K5 #[.int .i64 regs] 3) (h : RdP w S A l) :
    Calls Tryz.prog 107 #[.slice A l.length c, .func (.func 108) #[] #[.pointer (some ⟨K4, 0, none⟩), .pointer (some ⟨K5, 0, none⟩)]] w fun e w' => e = .returned (.bool (l.any (fun p => !Mc.plOk f.slots regs p))) ∧ Below w.heap.size w w' := by
  have HC := Lib.hid (anyBadP_idx S A c l hl f P p1 R0 p2 C p3 regs hs hr K4 K5 w V4 V5 h)
  go_enter Tryz.func107, Tryz.ntmps107
  go_wp2_with (go_at_call 147; with_reducible refine HC.out.mono ?_; rintro e w1 ⟨⟨z, rfl, hz⟩, hb⟩)
  go_ret
  exact ⟨by rw [← hz]; rfl, hb⟩
set_option maxHeartbeats 2000000 in
set_option maxRecDepth 100000 in
theorem anyBadT_idx (S : Nat → Prop) (A : Option Addr) (c : Nat) (l : List Int) (hl : l.length ≤ 1000000) (f : Mf) (P : Option Addr) (p1 : Nat) (R0 : Option Addr) (p2 : Nat) (C : Option Addr) (p3 : Nat) (hcl : f.code.length ≤ 1000000) (K4 : Nat) (w : World) (V4 : Var w K4 (mfV f P p1 R0 p2 C p3) 39) (h : RdZ w S A l) :
    Calls Tryz.prog 110 #[.slice A l.length c, .func (.func 57) #[] #[.pointer (some ⟨K4, 0, none⟩)]] w fun e w' => (∃ z : Int, e = .returned (.int .i64 z) ∧ decide (0 ≤ z) = l.any (fun p => !Mc.toOk f.code.length p)) ∧ Below w.heap.size w w' := by
  obtain ⟨R, hR⟩ : ∃ R, l.any (fun p => !Mc.toOk f.code.length p) = R := ⟨_, rfl⟩
  rw [hR]
  have HR : Hid (((l.drop 0).any (fun p => !Mc.toOk f.code.length p)) = R) := Lib.hid hR
  clear hR
  have HPc := Lib.hid (fun (p : Int) W (hb : Below w.heap.size w W) => tocap_any p f P p1 R0 p2 C p3 hcl K4 W (var_keep V4 hb))
  go_enter Tryz.func110, Tryz.ntmps110
  go_wp2
  go_loopw [8] (fun iv wr => ∃ i : Nat, iv = .int .i64 (i : Int) ∧ i ≤ l.length ∧ Hid (((l.drop i).any (fun p => !Mc.toOk f.code.length p)) = R) ∧ Below w.heap.size w wr) (fun iv _ => l.length - (intOf iv).toNat)
  case atStart => exact ⟨0, rfl, by omega, HR, Below.refl _ _⟩
  case round =>
    clear HR
    obtain ⟨i, rfl, hi, HR, hB⟩ := hrel
    by_cases hia : i < l.length
    · have x0 : (i : Int) < (l.length : Int) := by omega
      have x1 : (0 : Int) ≤ (i : Int) := by omega
      obtain ⟨g, o, rfl, -, -, f0'⟩ := (RdZ.on h hB).get hia
      have f0 : wr.cell? ⟨g, o + i, none⟩ = some (.int .i64 l[i]) := by simpa [ZAt] using f0'
      clear f0'
      have hd := HR.out
      rw [List.drop_eq_getElem_cons hia, List.any_cons] at hd
      obtain ⟨p, hp⟩ : ∃ p, l[i] = p := ⟨_, rfl⟩
      rw [hp] at hd f0
      clear hp HR
      have HB := Lib.hid hB
      clear hB
      rcases hq : (!Mc.toOk f.code.length p) with _ | _
      · rw [hq, Bool.false_or] at hd
        have HD := Lib.hid hd
        clear hd
        have hq' := Lib.hid hq
        clear hq
        go_wp2_with (go_at_call 57; refine (HPc.out p _ HB.out).mono ?_; rintro e w1 ⟨rfl, hb⟩; rw [hq'.out])
        go_roundw
        case rel => exact ⟨i + 1, by go_num, by omega, HD, HB.out.trans (hb.mono HB.out.size)⟩
        case measure => simp [intOf] <;> omega
      · rw [hq, Bool.true_or] at hd
        have HD := Lib.hid hd
        clear hd
        have hq' := Lib.hid hq
        clear hq
        go_wp2_with (go_at_call 57; refine (HPc.out p _ HB.out).mono ?_; rintro e w1 ⟨rfl, hb⟩; rw [hq'.out])
        go_ret
        exact ⟨⟨_, rfl, by rw [← HD.out]; simp⟩, HB.out.trans (hb.mono HB.out.size)⟩
    · have hi2 : i = l.length := by omega
      subst hi2
      have x0 : ¬ (l.length : Int) < (l.length : Int) := by omega
      have hd := HR.out
      rw [List.drop_length] at hd
      have HD := Lib.hid hd
      clear hd HR
      go_wp2
      go_ret
      exact ⟨⟨_, rfl, by rw [← HD.out]; simp⟩, hB⟩
theorem anyBadT_any (S : Nat → Prop) (A : Option Addr) (c : Nat) (l : List Int) (hl : l.length ≤ 1000000) (f : Mf) (P : Option Addr) (p1 : Nat) (R0 : Option Addr) (p2 : Nat) (C : Option Addr) (p3 : Nat) (hcl : f.code.length ≤ 1000000) (K4 : Nat) (w : World) (V4 : Var w K4 (mfV f P p1 R0 p2 C p3) 39) (h : RdZ w S A l) :
    Calls Tryz.prog 60 #[.slice A l.length c, .func (.func 57) #[] #[.pointer (some ⟨K4, 0, none⟩)]] w fun e w' => e = .returned (.bool (l.any (fun p => !Mc.toOk f.code.length p))) ∧ Below w.heap.size w w' := by
  have HC := Lib.hid (anyBadT_idx S A c l hl f P p1 R0 p2 C p3 hcl K4 w V4 h)
  go_enter Tryz.func60, Tryz.ntmps60
  go_wp2_with (go_at_call 110; with_reducible refine HC.out.mono ?_; rintro e w1 ⟨⟨z, rfl, hz⟩, hb⟩)
  go_ret
  exact ⟨by rw [← hz]; rfl, hb⟩
set_option maxHeartbeats 2000000 in
set_option maxRecDepth 100000 in
/-- mach.places. -/
theorem mplaces_any (S : Nat → Prop) (A : Option Addr) (c : Nat) (l : List Pl) (hl : l.length ≤ 1000000) (f : Mf) (P : Option Addr) (p1 : Nat) (R0 : Option Addr) (p2 : Nat) (C : Option Addr) (p3 : Nat) (regs : Int) (hs : 0 ≤ f.slots ∧ f.slots ≤ 1000000) (hr : 0 ≤ regs ∧ regs ≤ 1000000) (w : World) (h : RdP w S A l) :
    Calls Tryz.prog 58 #[.slice A l.length c, .agg (mfV f P p1 R0 p2 C p3), .int .i64 regs] w fun e w' => e = .returned (.bool (l.all (Mc.plOk f.slots regs))) ∧ Below w.heap.size w w' := by
  have hb := ((Below.refl w.heap.size w).alloc (Nat.le_refl _) (.cells (mfV f P p1 R0 p2 C p3) 39)).alloc (by simp) (.cells #[.int .i64 regs] 3)
  have V4 : Var ((w.alloc (.cells (mfV f P p1 R0 p2 C p3) 39)).alloc (.cells #[.int .i64 regs] 3)) w.heap.size (mfV f P p1 R0 p2 C p3) 39 := (Var.new w _ _).alloc _
  have V5 : Var ((w.alloc (.cells (mfV f P p1 R0 p2 C p3) 39)).alloc (.cells #[.int .i64 regs] 3)) (w.heap.size + 1) #[.int .i64 regs] 3 := by have h := Var.new (w.alloc (.cells (mfV f P p1 R0 p2 C p3) 39)) #[.int .i64 regs] 3; simpa using h
  have HC := Lib.hid (anyBadP_any S A c l hl f P p1 R0 p2 C p3 regs hs hr w.heap.size (w.heap.size + 1) _ V4 V5 (RdP.on h hb))
  have HB := Lib.hid hb
  have he : (!l.any (fun p => !Mc.plOk f.slots regs p)) = l.all (Mc.plOk f.slots regs) := by rw [List.not_any_eq_all_not]; simp
  obtain ⟨q, hq⟩ : ∃ q, l.any (fun p => !Mc.plOk f.slots regs p) = q := ⟨_, rfl⟩
  rw [hq] at HC he
  rw [← he]
  clear hb V4 V5 hq he
  unfold mfV at HC ⊢
  go_enter Tryz.func58, Tryz.ntmps58
  go_wp2_with (go_at_call 107; refine HC.out.mono ?_; rintro e w1 ⟨rfl, hb⟩)
  go_ret
  exact ⟨rfl, HB.out.trans (hb.mono HB.out.size)⟩
end Go.Proofs.YtadnfekogmjieaaGreatDoor
