/-
  Layer 51, the laws: Light (of code), seven.
  Layer 51, the laws: seven, alive. (Printed by gen_lw2.py.)
-/
import Derived.Test.YtadnfekogmjieaaGreatDoorGMC7
import Derived.Test.YtadnfekogmjieaaGreatDoorGGM
import Derived.Test.YtadnfekogmjieaaGreatDoorGG1
import Derived.Test.YtadnfekogmjieaaGreatDoorGGL
import Derived.Test.YtadnfekogmjieaaGreatDoorGGI
set_option linter.unusedVariables false
set_option linter.unusedSimpArgs false
namespace Go.Proofs.YtadnfekogmjieaaGreatDoor
open Go.RowKit
open Mc (Pl Mi Mf)
namespace Mc
def lightI (x : Mi) : Bool := (decide (x.d.length ≤ 20) && decide (x.s.length ≤ 20)) && decide (x.tos.length ≤ 20)
def lightB (f : Mf) : Bool := ((decide (f.code.length ≤ 80) && decide (f.ps.length ≤ 20)) && decide (f.rs.length ≤ 20)) && f.code.all lightI
theorem lightB_iff {f : Mf} : lightB f = true ↔ f.Light := by
  unfold lightB lightI
  simp only [Bool.and_eq_true, decide_eq_true_eq, List.all_eq_true]
  constructor
  · rintro ⟨⟨⟨h1, h2⟩, h3⟩, h4⟩
    exact ⟨h1, h2, h3, fun x hx => ⟨(h4 x hx).1.1, (h4 x hx).1.2, (h4 x hx).2⟩⟩
  · rintro ⟨h1, h2, h3, h4⟩
    exact ⟨⟨⟨h1, h2⟩, h3⟩, fun x hx => ⟨⟨(h4 x hx).1, (h4 x hx).2.1⟩, (h4 x hx).2.2⟩⟩
end Mc
set_option maxHeartbeats 4000000 in
set_option maxRecDepth 100000 in
theorem light_any (f : Mf) (S : Nat → Prop) (P : Option Addr) (c1 : Nat) (R0 : Option Addr) (c2 : Nat) (C : Option Addr) (c3 : Nat) (w : World) (h : MfAt S w f P R0 C) :
    Calls Tryz.prog 10 #[.agg (mfV f P c1 R0 c2 C c3)] w fun e w' => e = .returned (.bool (Mc.lightB f)) ∧ Below w.heap.size w w' := by
  obtain ⟨R, hR⟩ : ∃ R, Mc.lightB f = R := ⟨_, rfl⟩
  rw [hR]
  unfold Mc.lightB at hR
  have HB := Lib.hid ((Below.refl w.heap.size w).alloc (Nat.le_refl _) (.cells (mfV f P c1 R0 c2 C c3) 39))
  have HV := Lib.hid (Var.new w (mfV f P c1 R0 c2 C c3) 39)
  have HC := Lib.hid h.code
  clear h
  by_cases h0 : f.code.length ≤ 80
  case neg =>
    have p0 : (80 : Int) < (f.code.length : Int) := by omega
    rw [decide_eq_false h0] at hR
    have HR := Lib.hid hR
    clear hR
    go_enter Tryz.func10, Tryz.ntmps10
    go_upto_region 1 with fail
    refine at_code (F := fun W => Hid (Below w.heap.size w W) ∧ Hid (Var W w.heap.size (mfV f P c1 R0 c2 C c3) 39)) ⟨HB, HV⟩ ?_
    rintro W ⟨B1, V1⟩
    obtain ⟨y0, y1, y2, y3⟩ := mfV_cells V1.out
    go_wp2_with fail
    go_ret
    exact ⟨by rw [← HR.out]; rfl, B1.out⟩
  have p0 : ¬ (80 : Int) < (f.code.length : Int) := by omega
  rw [decide_eq_true h0, Bool.true_and] at hR
  by_cases h1 : f.ps.length ≤ 20
  case neg =>
    have p1 : (20 : Int) < (f.ps.length : Int) := by omega
    rw [decide_eq_false h1] at hR
    have HR := Lib.hid hR
    clear hR
    go_enter Tryz.func10, Tryz.ntmps10
    go_upto_region 1 with fail
    refine at_code (F := fun W => Hid (Below w.heap.size w W) ∧ Hid (Var W w.heap.size (mfV f P c1 R0 c2 C c3) 39)) ⟨HB, HV⟩ ?_
    rintro W ⟨B1, V1⟩
    obtain ⟨y0, y1, y2, y3⟩ := mfV_cells V1.out
    go_wp2_with fail
    go_ret
    exact ⟨by rw [← HR.out]; rfl, B1.out⟩
  have p1 : ¬ (20 : Int) < (f.ps.length : Int) := by omega
  rw [decide_eq_true h1, Bool.true_and] at hR
  by_cases h2 : f.rs.length ≤ 20
  case neg =>
    have p2 : (20 : Int) < (f.rs.length : Int) := by omega
    rw [decide_eq_false h2] at hR
    have HR := Lib.hid hR
    clear hR
    go_enter Tryz.func10, Tryz.ntmps10
    go_upto_region 1 with fail
    refine at_code (F := fun W => Hid (Below w.heap.size w W) ∧ Hid (Var W w.heap.size (mfV f P c1 R0 c2 C c3) 39)) ⟨HB, HV⟩ ?_
    rintro W ⟨B1, V1⟩
    obtain ⟨y0, y1, y2, y3⟩ := mfV_cells V1.out
    go_wp2_with fail
    go_ret
    exact ⟨by rw [← HR.out]; rfl, B1.out⟩
  have p2 : ¬ (20 : Int) < (f.rs.length : Int) := by omega
  rw [decide_eq_true h2, Bool.true_and] at hR
  have HR : Hid ((f.code.drop 0).all Mc.lightI = R) := Lib.hid hR
  clear hR
  go_enter Tryz.func10, Tryz.ntmps10
  go_upto_region 1 with fail
  refine at_code (F := fun W => Hid (Below w.heap.size w W) ∧ Hid (Var W w.heap.size (mfV f P c1 R0 c2 C c3) 39)) ⟨HB, HV⟩ ?_
  clear HB HV
  rintro W ⟨B1, V1⟩
  obtain ⟨y0, y1, y2, y3⟩ := mfV_cells V1.out
  go_wp2_with fail
  go_loopw [3] (fun iv wr => ∃ i : Nat, iv = .int .i64 (i : Int) ∧ i ≤ f.code.length ∧ Hid ((f.code.drop i).all Mc.lightI = R) ∧ Hid (Below w.heap.size w wr) ∧ Hid (Var wr w.heap.size (mfV f P c1 R0 c2 C c3) 39)) (fun iv _ => f.code.length - (intOf iv).toNat)
  case atStart => exact ⟨0, rfl, by omega, HR, B1, V1⟩
  case round =>
    clear HR B1 V1 y0 y1 y2 y3
    obtain ⟨i, rfl, hi, HR, B1, V1⟩ := hrel
    obtain ⟨y0, y1, y2, y3⟩ := mfV_cells V1.out
    by_cases hia : i < f.code.length
    · have x0 : (i : Int) < (f.code.length : Int) := by omega
      have x1 : (0 : Int) ≤ (i : Int) := by omega
      obtain ⟨g, o, rfl, -, hgl, hat⟩ := (RdM.on HC.out B1.out).get hia
      obtain ⟨D, d1, E, d2, T, d3, ⟨f0, f1, f2, f3, f4, f5, f6, f7, f8⟩, hrd⟩ := hat.cells
      have hd := HR.out
      rw [List.drop_eq_getElem_cons hia, List.all_cons] at hd
      obtain ⟨y, hy⟩ : ∃ y, f.code[i] = y := ⟨_, rfl⟩
      simp only [hy] at f5 f6 f7 hd
      clear hy HR hat hrd f0 f1 f2 f3 f4 f8
      unfold Mc.lightI at hd
      by_cases k0 : y.d.length ≤ 20
      case neg =>
        have r0 : (20 : Int) < (y.d.length : Int) := by omega
        rw [decide_eq_false k0] at hd
        have HD := Lib.hid hd
        clear hd
        go_wp2_with fail
        go_ret
        exact ⟨by rw [← HD.out]; rfl, B1.out⟩
      have r0 : ¬ (20 : Int) < (y.d.length : Int) := by omega
      rw [decide_eq_true k0, Bool.true_and] at hd
      by_cases k1 : y.s.length ≤ 20
      case neg =>
        have r1 : (20 : Int) < (y.s.length : Int) := by omega
        rw [decide_eq_false k1] at hd
        have HD := Lib.hid hd
        clear hd
        go_wp2_with fail
        go_ret
        exact ⟨by rw [← HD.out]; rfl, B1.out⟩
      have r1 : ¬ (20 : Int) < (y.s.length : Int) := by omega
      rw [decide_eq_true k1, Bool.true_and] at hd
      by_cases k2 : y.tos.length ≤ 20
      case neg =>
        have r2 : (20 : Int) < (y.tos.length : Int) := by omega
        rw [decide_eq_false k2] at hd
        have HD := Lib.hid hd
        clear hd
        go_wp2_with fail
        go_ret
        exact ⟨by rw [← HD.out]; rfl, B1.out⟩
      have r2 : ¬ (20 : Int) < (y.tos.length : Int) := by omega
      rw [decide_eq_true k2, Bool.true_and] at hd
      have HD : Hid ((f.code.drop (i + 1)).all Mc.lightI = R) := Lib.hid hd
      clear hd
      go_wp2_with fail
      go_roundw
      case rel => exact ⟨i + 1, by go_num, by omega, HD, B1, V1⟩
      case measure => simp [intOf] <;> omega
    · have hi2 : i = f.code.length := by omega
      have x0 : ¬ (i : Int) < (f.code.length : Int) := by omega
      have hd := HR.out
      rw [hi2, List.drop_length, List.all_nil] at hd
      have HD := Lib.hid hd
      clear hd HR hi2
      go_wp2_with fail
      go_ret
      exact ⟨by rw [← HD.out]; rfl, B1.out⟩
end Go.Proofs.YtadnfekogmjieaaGreatDoor
set_option linter.unusedVariables false
set_option linter.unusedSimpArgs false
namespace Go.Proofs.YtadnfekogmjieaaGreatDoor
open Go.RowKit
open Mc (Pl Mi Mf Th Wt Im Md)
section
variable {α : Type} {w : World} {g o k : Nat} {R : World → Nat → Nat → α → Prop} {a b : α} {S : Nat → Prop}
theorem RdT.of1 (h : R w g o a) (hS : S g) (hg : g < w.heap.size) : RdT w S (some ⟨g, o, none⟩) k R [a] := fun _ =>
  ⟨g, o, rfl, hS, hg, fun i hi => by
    have : i = 0 := by simpa using hi
    subst this
    rw [Nat.zero_mul, Nat.add_zero]
    exact h⟩
end
structure SvAt (B : Nat) (W : World) (S : Nat → Prop) (R : Option Addr) (C : Option Addr) (c3 : Nat) (M : List MV) : Prop where
  rr : RdZ W S R [1]
  own : W.ownsRow B 61 9 (.slice C M.length c3) M.length (M.flatMap encM)
  rows : ∀ v ∈ M, MvRd S W v
  low : ∀ k, S k → B ≤ k ∧ k < W.heap.size
  n3 : ∀ j, (Value.slice C M.length c3).ownBlock = some j → ¬ S j
section
variable {B : Nat} {W W' : World} {S : Nat → Prop} {R C : Option Addr} {c3 : Nat} {M : List MV}
theorem SvAt.on (h : SvAt B W S R C c3 M) (hb : Below W.heap.size W W') : SvAt B W' S R C c3 M :=
  ⟨h.rr.on hb, own_belowW h.own hb, fun v hv => (h.rows v hv).on hb, fun k hk => ⟨(h.low k hk).1, Nat.lt_of_lt_of_le (h.low k hk).2 hb.size⟩, h.n3⟩
theorem SvAt.mf (h : SvAt B W S R C c3 M) : MfAt (fun g => B ≤ g) W ⟨[], [1], 0, M.map Prod.fst⟩ none R C := by
  refine ⟨RdT.nil_, h.rr.mono fun g _ hg => (h.low g hg).1, fun hl => ?_⟩
  have hM : M ≠ [] := fun e => hl (by rw [e]; rfl)
  obtain ⟨g, o, e, hb, hc⟩ := own_rds encM_len (by omega) h.own hM
  refine ⟨g, o, e, by subst e; exact (h.own.lt g rfl).1, hb, fun i hi => ?_⟩
  have hi2 : i < M.length := by simpa using hi
  have he : (M.map Prod.fst)[i]'hi = M[i].1 := by simp
  rw [he]
  exact ⟨M[i].2.1.1, M[i].2.1.2, M[i].2.2.1.1, M[i].2.2.1.2, M[i].2.2.2.1, M[i].2.2.2.2, fun j v hj => hc i hi2 j v (by unfold encM; rw [Array.getElem?_toList]; exact hj), (h.rows _ (List.getElem_mem hi2)).mono fun g _ hg => (h.low g hg).1⟩
end
def SvOut (N : Nat) (e : Ending) (w' : World) : Prop :=
  ∃ S R c2 C c3 M, e = .returned (.agg #[.slice none 0 0, .slice R 1 c2, .int .i64 0, .slice C 2 c3]) ∧ SvAt (N + 1) w' S R C c3 M ∧ M.map Prod.fst = Mc.sv.code
theorem pl_rd {W : World} {K : Nat} {S : Nat → Prop} (V : Var W K #[.bool false, .int .i64 0] 64) (hS : S K) : RdP W S (some ⟨K, 0, none⟩) [⟨false, 0⟩] := RdT.of1 ⟨V.cells 0, V.cells 1⟩ hS V.lt
theorem sevenFin {w W Y : World} (HB : Below w.heap.size w W) (V1 : Var W (w.heap.size + 1) #[.bool false, .int .i64 0] 64) (hsz : W.heap.size = w.heap.size + 2) (hY : W.grownBy Y (some w.heap.size)) (hs : Y.heap.size = W.heap.size) :
    SvAt (w.heap.size + 1) ((Y.alloc (.cells #[.int .i64 1] 68)).alloc (.cells #[.int .i64 0, .int .i64 0, .int .i64 0, .int .i64 0, .int .u64 7, .slice (some ⟨w.heap.size + 1, 0, none⟩) 1 1, .slice none 0 0, .slice none 0 0, .int .i64 0, .int .i64 22, .int .i64 0, .int .i64 0, .int .i64 0, .int .u64 0, .slice none 0 0, .slice (some ⟨w.heap.size + 1, 0, none⟩) 1 1, .slice none 0 0, .int .i64 0] 61)) (fun k => k = w.heap.size + 1 ∨ k = w.heap.size + 2) (some ⟨W.heap.size, 0, none⟩) (some ⟨W.heap.size + 1, 0, none⟩) 2 [(Mc.sv0, (some ⟨w.heap.size + 1, 0, none⟩, 1), (none, 0), none, 0), (Mc.sv1, (none, 0), (some ⟨w.heap.size + 1, 0, none⟩, 1), none, 0)] ∧ Below w.heap.size w ((Y.alloc (.cells #[.int .i64 1] 68)).alloc (.cells #[.int .i64 0, .int .i64 0, .int .i64 0, .int .i64 0, .int .u64 7, .slice (some ⟨w.heap.size + 1, 0, none⟩) 1 1, .slice none 0 0, .slice none 0 0, .int .i64 0, .int .i64 22, .int .i64 0, .int .i64 0, .int .i64 0, .int .u64 0, .slice none 0 0, .slice (some ⟨w.heap.size + 1, 0, none⟩) 1 1, .slice none 0 0, .int .i64 0] 61)) := by
  have V2 := (Var.new Y #[.int .i64 1] 68).alloc (.cells #[.int .i64 0, .int .i64 0, .int .i64 0, .int .i64 0, .int .u64 7, .slice (some ⟨w.heap.size + 1, 0, none⟩) 1 1, .slice none 0 0, .slice none 0 0, .int .i64 0, .int .i64 22, .int .i64 0, .int .i64 0, .int .i64 0, .int .u64 0, .slice none 0 0, .slice (some ⟨w.heap.size + 1, 0, none⟩) 1 1, .slice none 0 0, .int .i64 0] 61)
  have own := lit_own2 (enc := encM) (base := w.heap.size + 1) (n := 2) (l := [(Mc.sv0, (some ⟨w.heap.size + 1, 0, none⟩, 1), (none, 0), none, 0), (Mc.sv1, (none, 0), (some ⟨w.heap.size + 1, 0, none⟩, 1), none, 0)]) (cs := #[.int .i64 0, .int .i64 0, .int .i64 0, .int .i64 0, .int .u64 7, .slice (some ⟨w.heap.size + 1, 0, none⟩) 1 1, .slice none 0 0, .slice none 0 0, .int .i64 0, .int .i64 22, .int .i64 0, .int .i64 0, .int .i64 0, .int .u64 0, .slice none 0 0, .slice (some ⟨w.heap.size + 1, 0, none⟩) 1 1, .slice none 0 0, .int .i64 0]) (e := 61) (Y.alloc (.cells #[.int .i64 1] 68)) (by simp; omega) (by simp [encM, miV, Mc.sv0, Mc.sv1]) encM_len rfl (by omega)
  have hs1 : (Y.alloc (.cells #[.int .i64 1] 68)).heap.size = W.heap.size + 1 := by simp; omega
  rw [hs1] at own
  rw [hs] at V2
  have V1Y := var_stay V1 hY (by omega)
  have VP := (V1Y.alloc (.cells #[.int .i64 1] 68)).alloc (.cells #[.int .i64 0, .int .i64 0, .int .i64 0, .int .i64 0, .int .u64 7, .slice (some ⟨w.heap.size + 1, 0, none⟩) 1 1, .slice none 0 0, .slice none 0 0, .int .i64 0, .int .i64 22, .int .i64 0, .int .i64 0, .int .i64 0, .int .u64 0, .slice none 0 0, .slice (some ⟨w.heap.size + 1, 0, none⟩) 1 1, .slice none 0 0, .int .i64 0] 61)
  have hB0 := below_grown HB hY HB.size (Nat.le_refl _)
  have hB2 := (hB0.alloc hB0.size (.cells #[.int .i64 1] 68)).alloc (by have := hB0.size; simp; omega) (.cells #[.int .i64 0, .int .i64 0, .int .i64 0, .int .i64 0, .int .u64 7, .slice (some ⟨w.heap.size + 1, 0, none⟩) 1 1, .slice none 0 0, .slice none 0 0, .int .i64 0, .int .i64 22, .int .i64 0, .int .i64 0, .int .i64 0, .int .u64 0, .slice none 0 0, .slice (some ⟨w.heap.size + 1, 0, none⟩) 1 1, .slice none 0 0, .int .i64 0] 61)
  refine ⟨⟨?_, own, ?_, ?_, ?_⟩, hB2⟩
  · exact RdT.of1 (R := ZAt) (V2.cells 0) (.inr hsz) V2.lt
  · intro v hv
    rcases List.mem_cons.1 hv with rfl | hv
    · exact ⟨⟨pl_rd VP (.inl rfl), RdT.nil_, RdT.nil_⟩, Nat.le_refl 1⟩
    · obtain rfl := List.mem_singleton.1 hv
      exact ⟨⟨RdT.nil_, pl_rd VP (.inl rfl), RdT.nil_⟩, Nat.le_refl 0⟩
  · rintro k hk
    have h3 : ((Y.alloc (.cells #[.int .i64 1] 68)).alloc (.cells #[.int .i64 0, .int .i64 0, .int .i64 0, .int .i64 0, .int .u64 7, .slice (some ⟨w.heap.size + 1, 0, none⟩) 1 1, .slice none 0 0, .slice none 0 0, .int .i64 0, .int .i64 22, .int .i64 0, .int .i64 0, .int .i64 0, .int .u64 0, .slice none 0 0, .slice (some ⟨w.heap.size + 1, 0, none⟩) 1 1, .slice none 0 0, .int .i64 0] 61)).heap.size = W.heap.size + 2 := by simp; omega
    rw [h3]
    rcases hk with rfl | rfl <;> omega
  · intro j hj
    have : W.heap.size + 1 = j := by simpa [Value.ownBlock] using hj
    rintro (h | h) <;> omega
set_option maxHeartbeats 4000000 in
set_option maxRecDepth 100000 in
theorem seven_any (w : World) : Calls Tryz.prog 23 #[] w fun e w' => SvOut w.heap.size e w' ∧ Below w.heap.size w w' := by
  go_enter Tryz.func23, Tryz.ntmps23
  go_upto_region 2 with fail
  refine at_code (F := fun W => Below w.heap.size w W ∧ Var W w.heap.size #[.slice none 0 0, .slice none 0 0, .int .i64 0, .slice none 0 0] 39 ∧ Var W (w.heap.size + 1) #[.bool false, .int .i64 0] 64 ∧ W.heap.size = w.heap.size + 2) ⟨((Below.refl w.heap.size w).alloc (Nat.le_refl _) _).alloc (by simp) _, (Var.new _ _ _).alloc _, by have h := Var.new (w.alloc (.cells #[.slice none 0 0, .slice none 0 0, .int .i64 0, .slice none 0 0] 39)) #[.bool false, .int .i64 0] 64; simpa using h, by simp⟩ ?_
  rintro W ⟨HB, V0, V1, hsz⟩
  have z0 := V0.froz 0
  have z1 := V0.froz 1
  have z2 := V0.froz 2
  have z3 := V0.froz 3
  have u0 : W.cell? ⟨w.heap.size, 0, none⟩ = some (.slice none 0 0) := V0.cells 0
  have u1 : W.cell? ⟨w.heap.size, 1, none⟩ = some (.slice none 0 0) := V0.cells 1
  have u2 : W.cell? ⟨w.heap.size, 2, none⟩ = some (.int .i64 0) := V0.cells 2
  have u3 : W.cell? ⟨w.heap.size, 3, none⟩ = some (.slice none 0 0) := V0.cells 3
  have hlt : w.heap.size < W.heap.size := V0.lt
  have HV0 := Lib.hid V0
  have HV1 := Lib.hid V1
  have HHB := Lib.hid HB
  have HSZ := Lib.hid hsz
  clear V0 V1 HB hsz
  go_wp2_with fail
  have p := put4 HV0.out (.slice none 0 0) (.slice (some ⟨W.heap.size, 0, none⟩) 1 1) (.int .i64 0) (.slice (some ⟨W.heap.size + 1, 0, none⟩) 2 2)
  have p1 := (p.1.alloc (.cells #[.int .i64 1] 68)).alloc (.cells #[.int .i64 0, .int .i64 0, .int .i64 0, .int .i64 0, .int .u64 7, .slice (some ⟨w.heap.size + 1, 0, none⟩) 1 1, .slice none 0 0, .slice none 0 0, .int .i64 0, .int .i64 22, .int .i64 0, .int .i64 0, .int .i64 0, .int .u64 0, .slice none 0 0, .slice (some ⟨w.heap.size + 1, 0, none⟩) 1 1, .slice none 0 0, .int .i64 0] 61)
  refine bodyPost_ret (results_cell_row rfl _ _ w.heap.size _ _ (0, 0) _ rfl p1 Tryz.underlying39 rfl (by kernel_rfl)) rfl ?_
  obtain ⟨q1, q2⟩ := sevenFin HHB.out HV1.out HSZ.out p.2 (by simp)
  exact ⟨⟨_, _, _, _, _, _, rfl, q1, rfl⟩, q2⟩
end Go.Proofs.YtadnfekogmjieaaGreatDoor
