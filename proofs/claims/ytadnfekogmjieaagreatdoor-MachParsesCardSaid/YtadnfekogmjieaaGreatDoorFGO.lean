/-
  Layer 51, the laws: Light (of code), seven.
  Layer 51, the laws: seven, alive. (Printed by gen_lw2.py.)
-/
import Derived.Test.YtadnfekogmjieaaGreatDoorFMC7
import Derived.Test.YtadnfekogmjieaaGreatDoorFGM
import Derived.Test.YtadnfekogmjieaaGreatDoorFMQ7
import Derived.Test.YtadnfekogmjieaaGreatDoorFGL
import Derived.Test.YtadnfekogmjieaaGreatDoorFGI
set_option linter.unusedVariables false
set_option linter.unusedSimpArgs false
namespace Go.Proofs.YtadnfekogmjieaaGreatDoor
open Go.RowKit
open Mc (Pl Mi Mf)
namespace Mc
end Mc
end Go.Proofs.YtadnfekogmjieaaGreatDoor
set_option linter.unusedVariables false
set_option linter.unusedSimpArgs false
namespace Go.Proofs.YtadnfekogmjieaaGreatDoor
open Go.RowKit
open Mc (Pl Mi Mf Th Wt Im Md)
section
variable {α : Type} {w : World} {g o k : Nat} {R : World → Nat → Nat → α → Prop} {a b : α} {S : Nat → Prop}
theorem RdT.of1 (h : R w g o a) (hS : S g) (hg : g < w.heap.size) : RdT w S (some ⟨g, o, none⟩) k R [a] := fun _ =>
  ⟨g, o, rfl, hS, hg, fun i hi => by
    have : i = 0 := by simpa using hi
    subst this
    rw [Nat.zero_mul, Nat.add_zero]
    exact h⟩
end
/-- What seven gives. -/
structure SvAt (B : Nat) (W : World) (S : Nat → Prop) (R : Option Addr) (C : Option Addr) (c3 : Nat) (M : List MV) : Prop where
  rr : RdZ W S R [1]
  own : W.ownsRow B 61 9 (.slice C M.length c3) M.length (M.flatMap encM)
  rows : ∀ v ∈ M, MvRd S W v
  low : ∀ k, S k → B ≤ k ∧ k < W.heap.size
  n3 : ∀ j, (Value.slice C M.length c3).ownBlock = some j → ¬ S j
section
variable {B : Nat} {W W' : World} {S : Nat → Prop} {R C : Option Addr} {c3 : Nat} {M : List MV}
theorem SvAt.on (h : SvAt B W S R C c3 M) (hb : Below W.heap.size W W') : SvAt B W' S R C c3 M :=
  ⟨h.rr.on hb, own_belowW h.own hb, fun v hv => (h.rows v hv).on hb, fun k hk => ⟨(h.low k hk).1, Nat.lt_of_lt_of_le (h.low k hk).2 hb.size⟩, h.n3⟩
theorem SvAt.mf (h : SvAt B W S R C c3 M) : MfAt (fun g => B ≤ g) W ⟨[], [1], 0, M.map Prod.fst⟩ none R C := by
  refine ⟨RdT.nil_, h.rr.mono fun g _ hg => (h.low g hg).1, fun hl => ?_⟩
  have hM : M ≠ [] := fun e => hl (by rw [e]; rfl)
  obtain ⟨g, o, e, hb, hc⟩ := own_rds encM_len (by omega) h.own hM
  refine ⟨g, o, e, by subst e; exact (h.own.lt g rfl).1, hb, fun i hi => ?_⟩
  have hi2 : i < M.length := by simpa using hi
  have he : (M.map Prod.fst)[i]'hi = M[i].1 := by simp
  rw [he]
  exact ⟨M[i].2.1.1, M[i].2.1.2, M[i].2.2.1.1, M[i].2.2.1.2, M[i].2.2.2.1, M[i].2.2.2.2, fun j v hj => hc i hi2 j v (by unfold encM; rw [Array.getElem?_toList]; exact hj), (h.rows _ (List.getElem_mem hi2)).mono fun g _ hg => (h.low g hg).1⟩
end
def SvOut (N : Nat) (e : Ending) (w' : World) : Prop :=
  ∃ S R c2 C c3 M, e = .returned (.agg #[.slice none 0 0, .slice R 1 c2, .int .i64 0, .slice C 2 c3]) ∧ SvAt (N + 1) w' S R C c3 M ∧ M.map Prod.fst = Mc.sv.code
theorem pl_rd {W : World} {K : Nat} {S : Nat → Prop} (V : Var W K #[.bool false, .int .i64 0] 64) (hS : S K) : RdP W S (some ⟨K, 0, none⟩) [⟨false, 0⟩] := RdT.of1 ⟨V.cells 0, V.cells 1⟩ hS V.lt
theorem sevenFin {w W Y : World} (HB : Below w.heap.size w W) (V1 : Var W (w.heap.size + 1) #[.bool false, .int .i64 0] 64) (hsz : W.heap.size = w.heap.size + 2) (hY : W.grownBy Y (some w.heap.size)) (hs : Y.heap.size = W.heap.size) :
    SvAt (w.heap.size + 1) ((Y.alloc (.cells #[.int .i64 1] 68)).alloc (.cells #[.int .i64 0, .int .i64 0, .int .i64 0, .int .i64 0, .int .u64 7, .slice (some ⟨w.heap.size + 1, 0, none⟩) 1 1, .slice none 0 0, .slice none 0 0, .int .i64 0, .int .i64 22, .int .i64 0, .int .i64 0, .int .i64 0, .int .u64 0, .slice none 0 0, .slice (some ⟨w.heap.size + 1, 0, none⟩) 1 1, .slice none 0 0, .int .i64 0] 61)) (fun k => k = w.heap.size + 1 ∨ k = w.heap.size + 2) (some ⟨W.heap.size, 0, none⟩) (some ⟨W.heap.size + 1, 0, none⟩) 2 [(Mc.sv0, (some ⟨w.heap.size + 1, 0, none⟩, 1), (none, 0), none, 0), (Mc.sv1, (none, 0), (some ⟨w.heap.size + 1, 0, none⟩, 1), none, 0)] ∧ Below w.heap.size w ((Y.alloc (.cells #[.int .i64 1] 68)).alloc (.cells #[.int .i64 0, .int .i64 0, .int .i64 0, .int .i64 0, .int .u64 7, .slice (some ⟨w.heap.size + 1, 0, none⟩) 1 1, .slice none 0 0, .slice none 0 0, .int .i64 0, .int .i64 22, .int .i64 0, .int .i64 0, .int .i64 0, .int .u64 0, .slice none 0 0, .slice (some ⟨w.heap.size + 1, 0, none⟩) 1 1, .slice none 0 0, .int .i64 0] 61)) := by
  have V2 := (Var.new Y #[.int .i64 1] 68).alloc (.cells #[.int .i64 0, .int .i64 0, .int .i64 0, .int .i64 0, .int .u64 7, .slice (some ⟨w.heap.size + 1, 0, none⟩) 1 1, .slice none 0 0, .slice none 0 0, .int .i64 0, .int .i64 22, .int .i64 0, .int .i64 0, .int .i64 0, .int .u64 0, .slice none 0 0, .slice (some ⟨w.heap.size + 1, 0, none⟩) 1 1, .slice none 0 0, .int .i64 0] 61)
  have own := lit_own2 (enc := encM) (base := w.heap.size + 1) (n := 2) (l := [(Mc.sv0, (some ⟨w.heap.size + 1, 0, none⟩, 1), (none, 0), none, 0), (Mc.sv1, (none, 0), (some ⟨w.heap.size + 1, 0, none⟩, 1), none, 0)]) (cs := #[.int .i64 0, .int .i64 0, .int .i64 0, .int .i64 0, .int .u64 7, .slice (some ⟨w.heap.size + 1, 0, none⟩) 1 1, .slice none 0 0, .slice none 0 0, .int .i64 0, .int .i64 22, .int .i64 0, .int .i64 0, .int .i64 0, .int .u64 0, .slice none 0 0, .slice (some ⟨w.heap.size + 1, 0, none⟩) 1 1, .slice none 0 0, .int .i64 0]) (e := 61) (Y.alloc (.cells #[.int .i64 1] 68)) (by simp; omega) (by simp [encM, miV, Mc.sv0, Mc.sv1]) encM_len rfl (by omega)
  have hs1 : (Y.alloc (.cells #[.int .i64 1] 68)).heap.size = W.heap.size + 1 := by simp; omega
  rw [hs1] at own
  rw [hs] at V2
  have V1Y := var_stay V1 hY (by omega)
  have VP := (V1Y.alloc (.cells #[.int .i64 1] 68)).alloc (.cells #[.int .i64 0, .int .i64 0, .int .i64 0, .int .i64 0, .int .u64 7, .slice (some ⟨w.heap.size + 1, 0, none⟩) 1 1, .slice none 0 0, .slice none 0 0, .int .i64 0, .int .i64 22, .int .i64 0, .int .i64 0, .int .i64 0, .int .u64 0, .slice none 0 0, .slice (some ⟨w.heap.size + 1, 0, none⟩) 1 1, .slice none 0 0, .int .i64 0] 61)
  have hB0 := below_grown HB hY HB.size (Nat.le_refl _)
  have hB2 := (hB0.alloc hB0.size (.cells #[.int .i64 1] 68)).alloc (by have := hB0.size; simp; omega) (.cells #[.int .i64 0, .int .i64 0, .int .i64 0, .int .i64 0, .int .u64 7, .slice (some ⟨w.heap.size + 1, 0, none⟩) 1 1, .slice none 0 0, .slice none 0 0, .int .i64 0, .int .i64 22, .int .i64 0, .int .i64 0, .int .i64 0, .int .u64 0, .slice none 0 0, .slice (some ⟨w.heap.size + 1, 0, none⟩) 1 1, .slice none 0 0, .int .i64 0] 61)
  refine ⟨⟨?_, own, ?_, ?_, ?_⟩, hB2⟩
  · exact RdT.of1 (R := ZAt) (V2.cells 0) (.inr hsz) V2.lt
  · intro v hv
    rcases List.mem_cons.1 hv with rfl | hv
    · exact ⟨⟨pl_rd VP (.inl rfl), RdT.nil_, RdT.nil_⟩, Nat.le_refl 1⟩
    · obtain rfl := List.mem_singleton.1 hv
      exact ⟨⟨RdT.nil_, pl_rd VP (.inl rfl), RdT.nil_⟩, Nat.le_refl 0⟩
  · rintro k hk
    have h3 : ((Y.alloc (.cells #[.int .i64 1] 68)).alloc (.cells #[.int .i64 0, .int .i64 0, .int .i64 0, .int .i64 0, .int .u64 7, .slice (some ⟨w.heap.size + 1, 0, none⟩) 1 1, .slice none 0 0, .slice none 0 0, .int .i64 0, .int .i64 22, .int .i64 0, .int .i64 0, .int .i64 0, .int .u64 0, .slice none 0 0, .slice (some ⟨w.heap.size + 1, 0, none⟩) 1 1, .slice none 0 0, .int .i64 0] 61)).heap.size = W.heap.size + 2 := by simp; omega
    rw [h3]
    rcases hk with rfl | rfl <;> omega
  · intro j hj
    have : W.heap.size + 1 = j := by simpa [Value.ownBlock] using hj
    rintro (h | h) <;> omega
set_option maxHeartbeats 4000000 in
set_option maxRecDepth 100000 in
theorem seven_any (w : World) : Calls Tryz.prog 23 #[] w fun e w' => SvOut w.heap.size e w' ∧ Below w.heap.size w w' := by
  go_enter Tryz.func23, Tryz.ntmps23
  go_upto_region 2 with fail
  refine at_code (F := fun W => Below w.heap.size w W ∧ Var W w.heap.size #[.slice none 0 0, .slice none 0 0, .int .i64 0, .slice none 0 0] 39 ∧ Var W (w.heap.size + 1) #[.bool false, .int .i64 0] 64 ∧ W.heap.size = w.heap.size + 2) ⟨((Below.refl w.heap.size w).alloc (Nat.le_refl _) _).alloc (by simp) _, (Var.new _ _ _).alloc _, by have h := Var.new (w.alloc (.cells #[.slice none 0 0, .slice none 0 0, .int .i64 0, .slice none 0 0] 39)) #[.bool false, .int .i64 0] 64; simpa using h, by simp⟩ ?_
  rintro W ⟨HB, V0, V1, hsz⟩
  have z0 := V0.froz 0
  have z1 := V0.froz 1
  have z2 := V0.froz 2
  have z3 := V0.froz 3
  have u0 : W.cell? ⟨w.heap.size, 0, none⟩ = some (.slice none 0 0) := V0.cells 0
  have u1 : W.cell? ⟨w.heap.size, 1, none⟩ = some (.slice none 0 0) := V0.cells 1
  have u2 : W.cell? ⟨w.heap.size, 2, none⟩ = some (.int .i64 0) := V0.cells 2
  have u3 : W.cell? ⟨w.heap.size, 3, none⟩ = some (.slice none 0 0) := V0.cells 3
  have hlt : w.heap.size < W.heap.size := V0.lt
  have HV0 := Lib.hid V0
  have HV1 := Lib.hid V1
  have HHB := Lib.hid HB
  have HSZ := Lib.hid hsz
  clear V0 V1 HB hsz
  go_wp2_with fail
  have p := put4 HV0.out (.slice none 0 0) (.slice (some ⟨W.heap.size, 0, none⟩) 1 1) (.int .i64 0) (.slice (some ⟨W.heap.size + 1, 0, none⟩) 2 2)
  have p1 := (p.1.alloc (.cells #[.int .i64 1] 68)).alloc (.cells #[.int .i64 0, .int .i64 0, .int .i64 0, .int .i64 0, .int .u64 7, .slice (some ⟨w.heap.size + 1, 0, none⟩) 1 1, .slice none 0 0, .slice none 0 0, .int .i64 0, .int .i64 22, .int .i64 0, .int .i64 0, .int .i64 0, .int .u64 0, .slice none 0 0, .slice (some ⟨w.heap.size + 1, 0, none⟩) 1 1, .slice none 0 0, .int .i64 0] 61)
  refine bodyPost_ret (results_cell_row rfl _ _ w.heap.size _ _ (0, 0) _ rfl p1 Tryz.underlying39 rfl (by kernel_rfl)) rfl ?_
  obtain ⟨q1, q2⟩ := sevenFin HHB.out HV1.out HSZ.out p.2 (by simp)
  exact ⟨⟨_, _, _, _, _, _, rfl, q1, rfl⟩, q2⟩
end Go.Proofs.YtadnfekogmjieaaGreatDoor
