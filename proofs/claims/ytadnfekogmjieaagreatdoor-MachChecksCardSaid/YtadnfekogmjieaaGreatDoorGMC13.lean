/-
  Layer 51, the program: Check. (Printed by gen_mc13.py.)
-/
import Derived.Test.YtadnfekogmjieaaGreatDoorGGV
import Derived.Test.YtadnfekogmjieaaGreatDoorGGW
import Derived.Test.YtadnfekogmjieaaGreatDoorGGK
import Derived.Test.YtadnfekogmjieaaGreatDoorGGI
set_option linter.unusedVariables false
set_option linter.unusedSimpArgs false
namespace Go.Proofs.YtadnfekogmjieaaGreatDoor
open Go.RowKit
open Mc (Pl Mi Mf Th Wt Im Md)
structure C12 (w W : World) (mv fv : Array Value) : Prop where
  bel : Below w.heap.size w W
  md : Var W w.heap.size mv 33
  mf : Var W (w.heap.size + 1) fv 39
theorem C12.new (w : World) (mv fv : Array Value) : C12 w ((w.alloc (.cells mv 33)).alloc (.cells fv 39)) mv fv :=
  ⟨((Below.refl w.heap.size w).alloc (Nat.le_refl _) _).alloc (by simp) _, (Var.new w _ _).alloc _, by have h := Var.new (w.alloc (.cells mv 33)) fv 39; simpa using h⟩
theorem C12.below {w W W' : World} {mv fv : Array Value} (h : C12 w W mv fv) (hb : Below W.heap.size W W') : C12 w W' mv fv := ⟨h.bel.trans (hb.mono h.bel.size), var_keep h.md hb, var_keep h.mf hb⟩
structure C13 (w W : World) (N K : Nat) (fv : Array Value) (S : Nat → Prop) (t : Th) (X : TX) : Prop where
  bel : Below w.heap.size w W
  mf : Var W (w.heap.size + 1) fv 39
  th : Var W K (thA t X) 97
  rd : ThRd (fun g => S g ∨ N ≤ g) W t X
theorem C13.below {w W W' : World} {N K : Nat} {fv : Array Value} {S : Nat → Prop} {t : Th} {X : TX} (h : C13 w W N K fv S t X) (hb : Below W.heap.size W W') : C13 w W' N K fv S t X := ⟨h.bel.trans (hb.mono h.bel.size), var_keep h.mf hb, var_keep h.th hb, h.rd.on hb⟩
namespace Mc
theorem on_goes (k : Int) : on k = goesK k := rfl
theorem mfOk_no {f : Mf} (h : (Ty.right f.ps && Ty.right f.rs) = false ∨ f.slots < (f.ps.length : Int) ∨ (65536 : Int) < f.slots ∨ f.code = []) : mfOk f = false := by
  rw [Bool.eq_false_iff]
  intro h'
  obtain ⟨⟨⟨h1, h2⟩, h3, h4⟩, h5⟩ := mfOk_iff.1 h'
  rcases h with h | h | h | h
  · rw [h1, h2] at h; cases h
  · omega
  · omega
  · exact h5 h
theorem check_no {t : Th} {f : Mf} {r : Int} (hr : within r 16 = true) (h : (Ty.right f.ps && Ty.right f.rs) = false ∨ f.slots < (f.ps.length : Int) ∨ (65536 : Int) < f.slots ∨ f.code = []) : check t f r = (0, 30) := by
  unfold check
  rw [if_neg (by rw [hr]; simp), if_pos (mfOk_no h)]
def checkEnd (f : Mf) : Int × Int := if goesK (f.code.getLastD mi0).kind then (((f.code.length - 1 : Nat) : Int), 30) else (0, 0)
def checkGo (t : Th) (f : Mf) (r : Int) (i : Nat) : Int × Int := match findBad t f r i (f.code.drop i) with | some i => ((i : Int), 30) | none => checkEnd f
theorem check_yes {t : Th} {f : Mf} {r : Int} (hr : within r 16 = true) (h : mfOk f = true) : check t f r = checkGo t f r 0 := by
  unfold check checkGo checkEnd
  rw [if_neg (by rw [hr]; simp), if_neg (by rw [h]; simp), List.drop_zero]
  rfl
theorem checkGo_bad {t : Th} {f : Mf} {r : Int} {i : Nat} (hi : i < f.code.length) (h : rightI t f.code[i] f r = false) : checkGo t f r i = ((i : Int), 30) := by
  unfold checkGo
  rw [List.drop_eq_getElem_cons hi, findBad, if_neg (by rw [h]; simp)]
theorem checkGo_next {t : Th} {f : Mf} {r : Int} {i : Nat} (hi : i < f.code.length) (h : rightI t f.code[i] f r = true) : checkGo t f r i = checkGo t f r (i + 1) := by
  unfold checkGo
  rw [List.drop_eq_getElem_cons hi, findBad, if_pos h]
theorem checkGo_end (t : Th) (f : Mf) (r : Int) : checkGo t f r f.code.length = checkEnd f := by
  unfold checkGo
  rw [List.drop_length]; rfl
theorem checkEnd_at {f : Mf} {k : Nat} (h : f.code.length = k + 1) : checkEnd f = if goesK (f.code[k]'(by omega)).kind then ((k : Int), 30) else (0, 0) := by
  unfold checkEnd
  have e : f.code.getLastD mi0 = f.code[k]'(by omega) := by
    have hne : f.code ≠ [] := by intro e; rw [e] at h; cases h
    rw [List.getLastD_eq_getLast?, List.getLast?_eq_some_getLast hne, Option.getD_some, List.getLast_eq_getElem]
    congr 1
    omega
  have h2 : f.code.length - 1 = k := by omega
  rw [e, h2]
end Mc
set_option maxHeartbeats 16000000 in
set_option maxRecDepth 100000 in
theorem mcheck_any (m : Md) (hm : m.Few) (x : MX) (ho : x.One) (f : Mf) (P : Option Addr) (p1 : Nat) (R0 : Option Addr) (p2 : Nat) (C : Option Addr) (p3 : Nat) (regs : Int) (hps : f.ps.length ≤ 1000) (hrs : f.rs.length ≤ 1000) (hcl : f.code.length ≤ 100000) (hli : ∀ y ∈ f.code, y.d.length ≤ 1000000 ∧ y.s.length ≤ 1000000 ∧ y.tos.length ≤ 1000000) (S0 S1 : Nat → Prop) (w : World) (G : GlobM w) (hmd : MdRd S0 w m x) (hf : MfAt S1 w f P R0 C) :
    Calls Tryz.prog 12 #[.agg (mdA m x), .agg (mfV f P p1 R0 p2 C p3), .int .i64 regs] w fun e w' => e = .returned (.tuple #[.int .i64 (Mc.check (Mc.thOf m) f regs).1, .int .i64 (Mc.check (Mc.thOf m) f regs).2]) ∧ Below w.heap.size w w' := by
  obtain ⟨Z, hZ⟩ : ∃ Z, Mc.check (Mc.thOf m) f regs = Z := ⟨_, rfl⟩
  rw [hZ]
  have HC0 := Lib.hid (C12.new w (mdA m x) (mfV f P p1 R0 p2 C p3))
  have HR := Lib.hid (fun W (hb : Below w.heap.size w W) => right_any P R0 p1 p2 f.ps f.rs W (RdZ.on hf.ps hb).rds.rdI (RdZ.on hf.rs hb).rds.rdI hps hrs)
  have HRd := Lib.hid (fun W (hb : Below w.heap.size w W) => mread_any m hm x ho S0 W (hmd.on hb))
  have htf := Mc.thOf_few hm
  have HRi := Lib.hid (fun (hsl : 0 ≤ f.slots ∧ f.slots ≤ 1000000) (hr : 0 ≤ regs ∧ regs ≤ 1000000) (X : TX) (i : Nat) (hi : i < f.code.length) D c1 (hc : f.code[i].d.length ≤ c1) E c2 T c3 (S : Nat → Prop) W (hb : Below w.heap.size w W) (h : ThRd S W (Mc.thOf m) X) (hm : MiRd S1 W f.code[i] D E T) => mright_any (Mc.thOf m) htf X f.code[i] (hli _ (List.getElem_mem hi)).1 (hli _ (List.getElem_mem hi)).2.1 (hli _ (List.getElem_mem hi)).2.2 D c1 hc E c2 T c3 f P p1 R0 p2 C p3 regs hsl hr (by omega) S S1 W (G.below hb) h hm)
  have HOn := Lib.hid (fun (y : Mi) D c1 E c2 T c3 W => on_any y D c1 E c2 T c3 W)
  have HF := Lib.hid hf
  have hmo : ∀ {l : Nat}, True := fun {_} => trivial
  clear hmo G hmd hf htf hli
  rcases hw : Mc.within regs 16 with _ | _
  · have hz : Z = (0, 31) := by rw [← hZ]; exact Mc.check_over _ _ hw
    subst hz
    clear HR HRd HRi HOn HF hZ
    go_enter Tryz.func12, Tryz.ntmps12
    go_wp2_with (go_at_call 24; refine (within_any _ _ _).mono ?_; rintro e w1 ⟨rfl, rfl⟩)
    go_ret2
    exact ⟨rfl, HC0.out.bel⟩
  have hreg : 0 ≤ regs ∧ regs ≤ 1000000 := by
    unfold Mc.within at hw
    simp only [Bool.and_eq_true, decide_eq_true_eq] at hw
    omega
  obtain ⟨rt, hrt⟩ : ∃ q, (Ty.right f.ps && Ty.right f.rs) = q := ⟨_, rfl⟩
  rw [hrt] at HR
  rcases rt with _ | _
  · have hz : Z = (0, 30) := by rw [← hZ]; exact Mc.check_no hw (.inl hrt)
    subst hz
    clear HRd HRi HOn HF hZ hrt
    go_enter Tryz.func12, Tryz.ntmps12
    go_upto_region 3 with (go_at_call 24; refine (within_any _ _ _).mono ?_; rintro e w1 ⟨rfl, rfl⟩)
    obtain ⟨y0, y1, y2, y3⟩ := mfV_cells HC0.out.mf
    go_wp2_with (go_at_call 25; refine (HR.out _ HC0.out.bel).mono ?_; rintro e w2 ⟨rfl, hb⟩; have S2 := Lib.hid (HC0.out.below hb); obtain ⟨y0, y1, y2, y3⟩ := mfV_cells S2.out.mf; clear hb)
    go_ret2
    exact ⟨rfl, S2.out.bel⟩
  by_cases h1 : f.slots < (f.ps.length : Int)
  · have hz : Z = (0, 30) := by rw [← hZ]; exact Mc.check_no hw (.inr (.inl h1))
    subst hz
    clear HRd HRi HOn HF hZ hrt
    go_enter Tryz.func12, Tryz.ntmps12
    go_upto_region 3 with (go_at_call 24; refine (within_any _ _ _).mono ?_; rintro e w1 ⟨rfl, rfl⟩)
    obtain ⟨y0, y1, y2, y3⟩ := mfV_cells HC0.out.mf
    go_wp2_with (go_at_call 25; refine (HR.out _ HC0.out.bel).mono ?_; rintro e w2 ⟨rfl, hb⟩; have S2 := Lib.hid (HC0.out.below hb); obtain ⟨y0, y1, y2, y3⟩ := mfV_cells S2.out.mf; clear hb)
    go_ret2
    exact ⟨rfl, S2.out.bel⟩
  by_cases h2 : (65536 : Int) < f.slots
  · have hz : Z = (0, 30) := by rw [← hZ]; exact Mc.check_no hw (.inr (.inr (.inl h2)))
    subst hz
    clear HRd HRi HOn HF hZ hrt
    go_enter Tryz.func12, Tryz.ntmps12
    go_upto_region 3 with (go_at_call 24; refine (within_any _ _ _).mono ?_; rintro e w1 ⟨rfl, rfl⟩)
    obtain ⟨y0, y1, y2, y3⟩ := mfV_cells HC0.out.mf
    go_wp2_with (go_at_call 25; refine (HR.out _ HC0.out.bel).mono ?_; rintro e w2 ⟨rfl, hb⟩; have S2 := Lib.hid (HC0.out.below hb); obtain ⟨y0, y1, y2, y3⟩ := mfV_cells S2.out.mf; clear hb)
    go_ret2
    exact ⟨rfl, S2.out.bel⟩
  rcases hk : f.code.length with _ | k
  · have hz : Z = (0, 30) := by rw [← hZ]; exact Mc.check_no hw (.inr (.inr (.inr (List.eq_nil_of_length_eq_zero hk))))
    subst hz
    clear HRd HRi HOn HF hZ hrt
    go_enter Tryz.func12, Tryz.ntmps12
    go_upto_region 3 with (go_at_call 24; refine (within_any _ _ _).mono ?_; rintro e w1 ⟨rfl, rfl⟩)
    obtain ⟨y0, y1, y2, y3⟩ := mfV_cells HC0.out.mf
    go_wp2_with (go_at_call 25; refine (HR.out _ HC0.out.bel).mono ?_; rintro e w2 ⟨rfl, hb⟩; have S2 := Lib.hid (HC0.out.below hb); obtain ⟨y0, y1, y2, y3⟩ := mfV_cells S2.out.mf; clear hb)
    go_ret2
    exact ⟨rfl, S2.out.bel⟩
  have hne : f.code ≠ [] := by intro e; rw [e] at hk; cases hk
  rw [Mc.check_yes hw (Mc.mfOk_iff.2 ⟨⟨by simpa using hrt, by omega, by omega⟩, hne⟩)] at hZ
  have hsl : 0 ≤ f.slots ∧ f.slots ≤ 1000000 := by omega
  have HRJ := Lib.hid (HRi.out hsl hreg)
  have HK := Lib.hid hk
  have q0 : ((f.code.length : Int) == 0) = false := by rw [hk]; simp; omega
  have q1 : ¬ ((f.code.length : Int) = 0) := by rw [hk]; omega
  have HZ := Lib.hid hZ
  have HE : Hid (∀ h : k < f.code.length, Mc.checkEnd f = if Mc.goesK (f.code[k]'h).kind then ((k : Int), 30) else (0, 0)) := Lib.hid (fun h => Mc.checkEnd_at hk)
  clear hZ hk hne hrt HRi
  go_enter Tryz.func12, Tryz.ntmps12
  go_upto_region 3 with (go_at_call 24; refine (within_any _ _ _).mono ?_; rintro e w1 ⟨rfl, rfl⟩)
  obtain ⟨y0, y1, y2, y3⟩ := mfV_cells HC0.out.mf
  go_upto_region 5 with (go_at_call 25; refine (HR.out _ HC0.out.bel).mono ?_; rintro e w2 ⟨rfl, hb⟩; have S2 := Lib.hid (HC0.out.below hb); obtain ⟨y0, y1, y2, y3⟩ := mfV_cells S2.out.mf; clear hb)
  clear y0 y1 y2 y3 HR
  refine at_code (F := fun W => Hid (C12 w W (mdA m x) (mfV f P p1 R0 p2 C p3))) S2 ?_
  clear S2 HC0
  intro W3 S3
  obtain ⟨⟨g0, g1, g2, g3, g4, g5⟩, g6, g7, g8, g9, g10, g11⟩ := mdA_cells S3.out.md
  obtain ⟨⟨A6, n6, c6, e6⟩, ⟨b7, e7⟩, ⟨z8, e8⟩, A11, n11, c11, e11⟩ := ho
  rw [e6] at g6
  rw [e7] at g7
  rw [e8] at g8
  rw [e11] at g11
  have HRD := Lib.hid (HRd.out _ S3.out.bel)
  unfold mdA at HRD
  rw [e6, e7, e8, e11] at HRD
  clear HRd
  go_upto_region 6 with (go_at_call 26; refine (HRD.out).mono ?_; clear HRD g0 g1 g2 g3 g4 g5 g6 g7 g8 g9 g10 g11; rintro e w3 ⟨⟨F, fc, B, bc, Gg, gc, rfl, hth⟩, hb⟩; have S4 := Lib.hid (S3.out.below hb); have HTH := Lib.hid hth; clear hth hb; simp only [thA, txOf, e6, e7, e8, e11])
  refine at_code (F := fun W => Hid (C13 w W W3.heap.size w3.heap.size (mfV f P p1 R0 p2 C p3) S0 (Mc.thOf m) (txOf m x F fc B bc Gg gc))) (Lib.hid ⟨S4.out.bel.alloc S4.out.bel.size _, S4.out.mf.alloc _, by (unfold thA txOf; dsimp only; rw [e6, e7, e8, e11]; exact Var.new _ _ _), HTH.out.on ((Below.refl _ _).alloc (Nat.le_refl _) _)⟩) ?_
  clear S4 HTH S3
  obtain ⟨K, hK⟩ : ∃ K, w3.heap.size = K := ⟨_, rfl⟩
  obtain ⟨N, hN⟩ : ∃ N, W3.heap.size = N := ⟨_, rfl⟩
  obtain ⟨t, ht⟩ : ∃ t, Mc.thOf m = t := ⟨_, rfl⟩
  obtain ⟨X, hX⟩ : ∃ X, txOf m x F fc B bc Gg gc = X := ⟨_, rfl⟩
  simp only [hK, hN, ht, hX] at HRJ HZ ⊢
  clear hK hN ht hX
  intro W S
  obtain ⟨y0, y1, y2, y3⟩ := mfV_cells S.out.mf
  go_wp2_with fail
  go_loopw [46] (fun iv wr => ∃ i : Nat, iv = .int .i64 (i : Int) ∧ i ≤ f.code.length ∧ Hid (Mc.checkGo t f regs i = Z) ∧ Hid (C13 w wr N K (mfV f P p1 R0 p2 C p3) S0 t X)) (fun iv _ => f.code.length - (intOf iv).toNat)
  case atStart => exact ⟨0, rfl, by omega, HZ, S⟩
  case round =>
    clear S HZ y0 y1 y2 y3
    obtain ⟨i, rfl, hi, HZ, S⟩ := hrel
    by_cases hia : i < f.code.length
    · have x0 : (i : Int) < (f.code.length : Int) := by omega
      have x1 : (0 : Int) ≤ (i : Int) := by omega
      obtain ⟨g, o, rfl, -, hgl, hat⟩ := (RdM.on HF.out.code S.out.bel).get hia
      obtain ⟨D, c1, E, c2, T, c3, ⟨f0, f1, f2, f3, f4, f5, f6, f7, f8⟩, hrd, hcp⟩ := hat.cellsC
      have HRX := Lib.hid (HRJ.out X i hia D c1 hcp E c2 T c3 (fun g => S0 g ∨ N ≤ g))
      have HMI := Lib.hid hrd
      have HB1 := Lib.hid (fun h => Mc.checkGo_bad (t := t) (f := f) (r := regs) hia h)
      have HB2 := Lib.hid (fun h => Mc.checkGo_next (t := t) (f := f) (r := regs) hia h)
      obtain ⟨y, hy⟩ : ∃ y, f.code[i] = y := ⟨_, rfl⟩
      simp only [hy] at f0 f1 f2 f3 f4 f5 f6 f7 f8 HRX HMI HB1 HB2
      clear hy hat hrd hcp
      go_upto_region 9 with fail
      refine at_code (F := fun W => Hid (C13 w W N K (mfV f P p1 R0 p2 (some ⟨g, o, none⟩) p3) S0 t X) ∧ Hid (Var W wr.heap.size (miV y D c1 E c2 T c3) 61) ∧ Hid (MiRd S1 W y D E T)) ⟨Lib.hid (S.out.below ((Below.refl _ _).alloc (Nat.le_refl _) _)), Lib.hid (Var.new _ _ _), Lib.hid (HMI.out.on ((Below.refl _ _).alloc (Nat.le_refl _) _))⟩ ?_
      clear f0 f1 f2 f3 f4 f5 f6 f7 f8 S HMI
      obtain ⟨K5, hK5⟩ : ∃ K, wr.heap.size = K := ⟨_, rfl⟩
      simp only [hK5]
      clear hK5
      rintro W5 ⟨S5, HV5, HM5⟩
      obtain ⟨⟨g0, g1, g2, g3, g4, g5, g6, g7⟩, g8, g9, g10, g11, g12, g13, g14, g15⟩ := thA_cells S5.out.th
      obtain ⟨m0, m1, m2, m3, m4, m5, m6, m7, m8⟩ := miV_cells HV5.out
      obtain ⟨y0, y1, y2, y3⟩ := mfV_cells S5.out.mf
      have HRY := Lib.hid (HRX.out W5 S5.out.bel S5.out.rd HM5.out)
      clear HRX
      obtain ⟨r, hr⟩ : ∃ r, Mc.rightI t y f regs = r := ⟨_, rfl⟩
      rw [hr] at HRY HB1 HB2
      clear hr
      unfold thA miV mfV at HRY
      rcases r with _ | _
      · have HX := Lib.hid ((HB1.out rfl).symm.trans HZ.out)
        clear HB1 HB2 HZ
        go_wp2_with (go_at_call 27; refine (HRY.out).mono ?_; rintro e w6 ⟨rfl, hb⟩; have S6 := S5.out.below hb)
        go_ret2
        exact ⟨by rw [← HX.out]; rfl, S6.bel⟩
      · have HX := Lib.hid ((HB2.out rfl).symm.trans HZ.out)
        clear HB1 HB2 HZ
        go_wp2_with (go_at_call 27; refine (HRY.out).mono ?_; rintro e w6 ⟨rfl, hb⟩; have S6 := S5.out.below hb)
        go_roundw
        case rel => exact ⟨i + 1, by go_num, by omega, HX, Lib.hid S6⟩
        case measure => simp [intOf] <;> omega
    · obtain rfl : i = f.code.length := by omega
      have x2 : ¬ (f.code.length : Int) < (f.code.length : Int) := by omega
      have hz := HZ.out
      have hkk := HK.out
      have hia : k < f.code.length := by omega
      rw [Mc.checkGo_end, HE.out hia] at hz
      obtain ⟨g, o, hA, -, hgl, hat⟩ := (RdM.on HF.out.code S.out.bel).get hia
      subst hA
      obtain ⟨D, c1, E, c2, T, c3, ⟨f0, f1, f2, f3, f4, f5, f6, f7, f8⟩, hrd, hcp⟩ := hat.cellsC
      obtain ⟨y, hy⟩ : ∃ y, f.code[k] = y := ⟨_, rfl⟩
      simp only [hy] at f0 f1 f2 f3 f4 f5 f6 f7 f8 hz
      have hwk : IntKind.i64.wrap ((f.code.length : Int) - 1) = (k : Int) := by rw [IntKind.wrap_i64]; omega
      have x3 : (k : Int) < (f.code.length : Int) := by omega
      have x4 : (0 : Int) ≤ (k : Int) := by omega
      have HOY := Lib.hid (HOn.out y D c1 E c2 T c3)
      have HX := Lib.hid hz
      rw [Mc.on_goes] at HOY
      obtain ⟨gk, hgk⟩ : ∃ b, Mc.goesK y.kind = b := ⟨_, rfl⟩
      rw [hgk] at HOY HX
      unfold miV at HOY
      obtain ⟨y0, y1, y2, y3⟩ := mfV_cells S.out.mf
      clear hz hy hat hrd hcp hgk HZ HE HRJ HOn HF
      rcases gk with _ | _
      · skip
        go_wp2_with (go_at_call 28; refine (HOY.out _).mono ?_; rintro e w6 ⟨rfl, hb⟩; have S6 := S.out.below hb)
        go_ret2
        exact ⟨by rw [← HX.out]; rfl, S6.bel⟩
      · skip
        go_wp2_with (go_at_call 28; refine (HOY.out _).mono ?_; rintro e w6 ⟨rfl, hb⟩; have S6 := S.out.below hb)
        go_ret2
        exact ⟨by rw [← HX.out]; rfl, S6.bel⟩
end Go.Proofs.YtadnfekogmjieaaGreatDoor
