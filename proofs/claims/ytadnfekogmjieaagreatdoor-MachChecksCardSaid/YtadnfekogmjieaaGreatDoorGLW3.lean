/-
  Layer 51, the laws: alive. (Printed by gen_lw3.py.)
-/
import Derived.Test.YtadnfekogmjieaaGreatDoorGGO
import Derived.Test.YtadnfekogmjieaaGreatDoorGMC13
import Derived.Deep.RegionHeld3
set_option linter.unusedVariables false
set_option linter.unusedSimpArgs false
namespace Go.Proofs.YtadnfekogmjieaaGreatDoor
open Go.RowKit
open Mc (Pl Mi Mf Th Wt Im Md)
structure ASt (w W : World) (Kf : Nat) (R : Option Addr) (c2 : Nat) (C : Option Addr) (c3 : Nat) (M : List MV) : Prop where
  bel : Below w.heap.size w W
  fn : Var W Kf #[.slice none 0 0, .slice R 1 c2, .int .i64 0, .slice C 2 c3] 39
  sv : ∃ S, SvAt (w.heap.size + 1) W S R C c3 M ∧ ∀ k, S k → k < Kf
  hi : ∀ j, (Value.slice C M.length c3).ownBlock = some j → j < Kf
  cd : M.map Prod.fst = Mc.sv.code
  lo : w.heap.size ≤ Kf
  g0 : GlobM w
structure AG (W : World) (Kf Kg N3 : Nat) (P : Option Addr) (c1 : Nat) (R : Option Addr) (c2 : Nat) (C : Option Addr) (c3 : Nat) : Prop where
  var : Var W Kg #[.slice P 0 c1, .slice R 1 c2, .int .i64 0, .slice C 2 c3] 39
  at_ : MfAt (fun g => N3 ≤ g) W Mc.sv P R C
  lo : Kf < N3
  hi : N3 ≤ Kg
structure AL (w W : World) (Kf : Nat) (R : Option Addr) (c2 : Nat) (C : Option Addr) (c3 : Nat) : Prop where
  bel : Below w.heap.size w W
  fn : Var W Kf #[.slice none 0 0, .slice R 1 c2, .int .i64 0, .slice C 3 c3] 39
  at_ : MfAt (fun _ => True) W Mc.svL none R C
  g0 : GlobM w
theorem own_other {W W' : World} {base : Nat} {e t : TypeId} {k n : Nat} {v : Value} {xs : List Value} {K : Nat} {cs : Array Value} (h : W.ownsRow base e k v n xs) (hv : Var W K cs t) (hte : t ≠ e) (hg : W.grownBy W' (some K)) : W'.ownsRow base e k v n xs :=
  h.kept hg (.inr (own_ne_var h hv hte))
section
variable {w W W' : World} {Kf Kg N3 : Nat} {P R C P' R' C' : Option Addr} {c1 c2 c3 d1 d2 d3 : Nat} {M : List MV}
theorem ASt.glob (h : ASt w W Kf R c2 C c3 M) : GlobM W := h.g0.below h.bel
theorem AL.glob (h : AL w W Kf R c2 C c3) : GlobM W := h.g0.below h.bel
theorem ASt.step (h : ASt w W Kf R c2 C c3 M) (hb : Below W.heap.size W W') : ASt w W' Kf R c2 C c3 M := by
  obtain ⟨S, h1, h2⟩ := h.sv
  exact ⟨h.bel.trans (hb.mono h.bel.size), var_keep h.fn hb, ⟨S, h1.on hb, h2⟩, h.hi, h.cd, h.lo, h.g0⟩
theorem ASt.mf (h : ASt w W Kf R c2 C c3 M) : MfAt (fun g => w.heap.size + 1 ≤ g) W Mc.sv none R C := by
  obtain ⟨S, h1, h2⟩ := h.sv
  have := h1.mf
  rw [h.cd] at this
  exact this
theorem ASt.len (h : ASt w W Kf R c2 C c3 M) : M.length = 2 := by
  have := congrArg List.length h.cd
  simpa [Mc.sv] using this
theorem ASt.cells (h : ASt w W Kf R c2 C c3 M) : W.cell? ⟨Kf, 0, none⟩ = some (.slice none 0 0) ∧ W.cell? ⟨Kf, 1, none⟩ = some (.slice R 1 c2) ∧ W.cell? ⟨Kf, 2, none⟩ = some (.int .i64 0) ∧ W.cell? ⟨Kf, 3, none⟩ = some (.slice C 2 c3) := (cells4' h.fn).1
theorem AG.step (h : AG W Kf Kg N3 P c1 R c2 C c3) (hb : Below W.heap.size W W') : AG W' Kf Kg N3 P c1 R c2 C c3 := ⟨var_keep h.var hb, h.at_.on hb, h.lo, h.hi⟩
theorem AG.cells (h : AG W Kf Kg N3 P c1 R c2 C c3) : W.cell? ⟨Kg, 0, none⟩ = some (.slice P 0 c1) ∧ W.cell? ⟨Kg, 1, none⟩ = some (.slice R 1 c2) ∧ W.cell? ⟨Kg, 2, none⟩ = some (.int .i64 0) ∧ W.cell? ⟨Kg, 3, none⟩ = some (.slice C 2 c3) := (cells4' h.var).1
theorem AL.step (h : AL w W Kf R c2 C c3) (hb : Below W.heap.size W W') : AL w W' Kf R c2 C c3 := ⟨h.bel.trans (hb.mono h.bel.size), var_keep h.fn hb, h.at_.on hb, h.g0⟩
theorem AL.cells (h : AL w W Kf R c2 C c3) : W.cell? ⟨Kf, 0, none⟩ = some (.slice none 0 0) ∧ W.cell? ⟨Kf, 1, none⟩ = some (.slice R 1 c2) ∧ W.cell? ⟨Kf, 2, none⟩ = some (.int .i64 0) ∧ W.cell? ⟨Kf, 3, none⟩ = some (.slice C 3 c3) := (cells4' h.fn).1
theorem ASt.new {w1 : World} {S : Nat → Prop} (hb : Below w.heap.size w w1) (h : SvAt (w.heap.size + 1) w1 S R C c3 M) (hM : M.map Prod.fst = Mc.sv.code) (G : GlobM w) : ASt w (w1.alloc (.cells #[.slice none 0 0, .slice R 1 c2, .int .i64 0, .slice C 2 c3] 39)) w1.heap.size R c2 C c3 M := by
  have ha := (Below.refl w1.heap.size w1).alloc (Nat.le_refl _) (.cells #[.slice none 0 0, .slice R 1 c2, .int .i64 0, .slice C 2 c3] 39)
  exact ⟨hb.trans (ha.mono hb.size), Var.new _ _ _, ⟨S, h.on ha, fun k hk => (h.low k hk).2⟩, fun j hj => (h.own.lt j hj).2, hM, hb.size, G⟩
theorem AG.new {w3 : World} (h : MfAt (fun g => N3 ≤ g) w3 Mc.sv P R C) (h1 : Kf < N3) (h2 : N3 ≤ w3.heap.size) : AG (w3.alloc (.cells #[.slice P 0 c1, .slice R 1 c2, .int .i64 0, .slice C 2 c3] 39)) Kf w3.heap.size N3 P c1 R c2 C c3 :=
  ⟨Var.new _ _ _, h.on ((Below.refl w3.heap.size w3).alloc (Nat.le_refl _) _), h1, h2⟩
theorem ASt.app (h : ASt w W Kf R c2 C c3 M) {Sv : Nat → Prop} {v : MV} (hv : MvRd Sv W v) (hvs : ∀ k, Sv k → Kf < k) (hv0 : v.1 = Mc.sv2) {C' : Option Addr} {c' : Nat} (own : W'.ownsRow (w.heap.size + 1) 61 9 (.slice C' 3 c') 3 ((M ++ [v]).flatMap encM)) (hg : W.grownBy W' (Value.slice C 2 c3).ownBlock) :
    AL w (W'.setCell ⟨Kf, 3, none⟩ (.slice C' 3 c')) Kf R c2 C' c' := by
  obtain ⟨S, h1, h2⟩ := h.sv
  have hl := h.len
  have hhi := h.hi
  have hn3 := h1.n3
  have hown := h1.own
  rw [hl] at hhi hn3 hown
  have gs := grown_set W' Kf 3 (.slice C' 3 c')
  have hlow : ∀ j, (Value.slice C 2 c3).ownBlock = some j → w.heap.size ≤ j := fun j hj => by have := (hown.lt j hj).1; omega
  have k1 : Below w.heap.size w W' := h.bel.grown hg h.bel.size hlow
  have k2 : Below w.heap.size w (W'.setCell ⟨Kf, 3, none⟩ (.slice C' 3 c')) := k1.setCell (p := ⟨Kf, 3, none⟩) h.lo _
  have v1 := var_grown h.fn hown (by decide) hg
  have k3 := v1.set 3 (.slice C' 3 c')
  have own2 := own_other own v1 (by decide) gs
  have hsz : W.heap.size ≤ (W'.setCell ⟨Kf, 3, none⟩ (.slice C' 3 c')).heap.size := Nat.le_trans hg.size gs.size
  have hk : Keep S W (W'.setCell ⟨Kf, 3, none⟩ (.slice C' 3 c')) := Keep.trans (fun p u hs hc => hg.cell hc (fun e => hn3 _ e.symm hs)) (keep_grown gs (fun hs => by have := h2 _ hs; omega))
  have hkv : Keep Sv W (W'.setCell ⟨Kf, 3, none⟩ (.slice C' 3 c')) := Keep.trans (fun p u hs hc => hg.cell hc (fun e => by have := hhi _ e.symm; have := hvs _ hs; omega)) (keep_grown gs (fun hs => by have := hvs _ hs; omega))
  refine ⟨k2, by simpa using k3, ⟨RdT.nil_, (h1.rr.keep hk hsz).mono fun _ _ _ => trivial, fun hne => ?_⟩, h.g0⟩
  obtain ⟨g, o, e, hb, hc⟩ := own_rds encM_len (by omega) own2 (by simp)
  refine ⟨g, o, e, trivial, hb, fun i hi => ?_⟩
  have hcd : (M ++ [v]).map Prod.fst = Mc.svL.code := by rw [List.map_append, h.cd, List.map_cons, hv0]; rfl
  have hi2 : i < (M ++ [v]).length := by
    have := congrArg List.length hcd
    rw [List.length_map] at this
    omega
  have he : Mc.svL.code[i]'hi = ((M ++ [v])[i]'hi2).1 := by
    have : Mc.svL.code[i]'hi = ((M ++ [v]).map Prod.fst)[i]'(by rw [hcd]; exact hi) := by simp only [hcd]
    rw [this, List.getElem_map]
  rw [he]
  have hmem := List.getElem_mem hi2
  obtain ⟨u, hu⟩ : ∃ u, (M ++ [v])[i]'hi2 = u := ⟨_, rfl⟩
  have hci := hc i hi2
  rw [hu] at hmem hci ⊢
  have hrd : MvRd (fun _ => True) (W'.setCell ⟨Kf, 3, none⟩ (.slice C' 3 c')) u := by
    rcases List.mem_append.1 hmem with hm | hm
    · exact ((h1.rows u hm).keep hk hsz).mono fun _ _ _ => trivial
    · rw [List.mem_singleton.1 hm]; exact (hv.keep hkv hsz).mono fun _ _ _ => trivial
  exact ⟨u.2.1.1, u.2.1.2, u.2.2.1.1, u.2.2.1.2, u.2.2.2.1, u.2.2.2.2, fun j z hj => hci j z (by unfold encM; rw [Array.getElem?_toList]; exact hj), hrd⟩
theorem AG.app (h : AG W Kf Kg N3 P' d1 R' d2 C' d3) (hA : ASt w W Kf R c2 C c3 M) (hg : W.grownBy W' (Value.slice C 2 c3).ownBlock) (u : Value) : AG (W'.setCell ⟨Kf, 3, none⟩ u) Kf Kg N3 P' d1 R' d2 C' d3 := by
  obtain ⟨S, h1, h2⟩ := hA.sv
  have hl := hA.len
  have hhi := hA.hi
  have hown := h1.own
  rw [hl] at hhi hown
  have h3 := h.lo
  have h4 := h.hi
  have gs := grown_set W' Kf 3 u
  refine ⟨var_stay (var_grown h.var hown (by decide) hg) gs (by omega), h.at_.keep (Keep.trans (fun p z hs hc => hg.cell hc (fun e => by have := hhi _ e.symm; have : N3 ≤ p.block := hs; omega)) (keep_grown gs (fun hs => by have : N3 ≤ Kf := hs; omega))) (Nat.le_trans hg.size gs.size), h3, h4⟩
end
def mx0 : MX := ⟨none, 0, none, 0, none, 0, none, 0, none, 0, none, 0, .slice none 0 0, .bool false, .int .i64 0, none, 0, none, 0, .slice none 0 0⟩
def md0 : Md := ⟨[], [], [], [], 0, [], 0, 0⟩
theorem mx0_one : mx0.One := ⟨⟨_, _, _, rfl⟩, ⟨_, rfl⟩, ⟨_, rfl⟩, ⟨_, _, _, rfl⟩⟩
theorem md0_few : md0.Few := by refine ⟨?_, ?_, ?_, ?_, ?_, ?_, ?_, ?_, ?_⟩ <;> simp [md0]
theorem md0_rd (W : World) : MdRd (fun _ => True) W md0 mx0 := ⟨RdT.nil_, RdT.nil_, RdT.nil_, RdT.nil_, RdT.nil_⟩
theorem sv_lists : ∀ y ∈ Mc.svL.code, y.d.length ≤ 1000000 ∧ y.s.length ≤ 1000000 ∧ y.tos.length ≤ 1000000 := by decide
theorem sv_lists0 : ∀ y ∈ Mc.sv.code, y.d.length ≤ 1000000 ∧ y.s.length ≤ 1000000 ∧ y.tos.length ≤ 1000000 := by decide
theorem sv_ok : Mc.sv.Ok := by
  refine ⟨by decide, by decide, by unfold InR Mc.sv; decide, by decide, ?_⟩
  intro x hx
  rcases List.mem_cons.1 hx with rfl | hx
  · exact ⟨by unfold InR Mc.sv0; decide, by unfold InR Mc.sv0; decide, by unfold InR Mc.sv0; decide, by unfold InR Mc.sv0; decide, by decide, ⟨by decide, by unfold InR Mc.sv0; decide⟩, ⟨by decide, by unfold InR Mc.sv0; decide⟩, ⟨by decide, by unfold InR Mc.sv0; decide⟩, by unfold InR Mc.sv0; decide⟩
  · obtain rfl := List.mem_singleton.1 hx
    exact ⟨by unfold InR Mc.sv1; decide, by unfold InR Mc.sv1; decide, by unfold InR Mc.sv1; decide, by unfold InR Mc.sv1; decide, by decide, ⟨by decide, by unfold InR Mc.sv1; decide⟩, ⟨by decide, by unfold InR Mc.sv1; decide⟩, ⟨by decide, by unfold InR Mc.sv1; decide⟩, by unfold InR Mc.sv1; decide⟩
/-! The calls of alive. -/
theorem al_check1 (R C : Option Addr) (c2 c3 : Nat) (S : Nat → Prop) (W : World) (G : GlobM W) (h : MfAt S W Mc.sv none R C) : Calls Tryz.prog 12 #[.agg #[.slice none 0 0, .slice none 0 0, .slice none 0 0, .slice none 0 0, .slice none 0 0, .slice none 0 0, .slice none 0 0, .bool false, .int .i64 0, .slice none 0 0, .slice none 0 0, .slice none 0 0], .agg #[.slice none 0 0, .slice R 1 c2, .int .i64 0, .slice C 2 c3], .int .i64 1] W fun e w' => e = .returned (.tuple #[.int .i64 0, .int .i64 0]) ∧ Below W.heap.size W w' := by
  have := mcheck_any md0 md0_few mx0 mx0_one Mc.sv none 0 R c2 C c3 1 (by decide) (by decide) (by decide) sv_lists0 (fun _ => True) S W G (md0_rd W) h
  rw [show Mc.thOf md0 = Mc.th0 from rfl, Mc.sv_checks.1] at this
  exact this
theorem al_check0 (R C : Option Addr) (c2 c3 : Nat) (S : Nat → Prop) (W : World) (G : GlobM W) (h : MfAt S W Mc.sv none R C) : Calls Tryz.prog 12 #[.agg #[.slice none 0 0, .slice none 0 0, .slice none 0 0, .slice none 0 0, .slice none 0 0, .slice none 0 0, .slice none 0 0, .bool false, .int .i64 0, .slice none 0 0, .slice none 0 0, .slice none 0 0], .agg #[.slice none 0 0, .slice R 1 c2, .int .i64 0, .slice C 2 c3], .int .i64 0] W fun e w' => e = .returned (.tuple #[.int .i64 0, .int .i64 30]) ∧ Below W.heap.size W w' := by
  have := mcheck_any md0 md0_few mx0 mx0_one Mc.sv none 0 R c2 C c3 0 (by decide) (by decide) (by decide) sv_lists0 (fun _ => True) S W G (md0_rd W) h
  rw [show Mc.thOf md0 = Mc.th0 from rfl, Mc.sv_checks.2.1] at this
  exact this
theorem al_checkL (R C : Option Addr) (c2 c3 : Nat) (S : Nat → Prop) (W : World) (G : GlobM W) (h : MfAt S W Mc.svL none R C) : Calls Tryz.prog 12 #[.agg #[.slice none 0 0, .slice none 0 0, .slice none 0 0, .slice none 0 0, .slice none 0 0, .slice none 0 0, .slice none 0 0, .bool false, .int .i64 0, .slice none 0 0, .slice none 0 0, .slice none 0 0], .agg #[.slice none 0 0, .slice R 1 c2, .int .i64 0, .slice C 3 c3], .int .i64 1] W fun e w' => e = .returned (.tuple #[.int .i64 2, .int .i64 30]) ∧ Below W.heap.size W w' := by
  have := mcheck_any md0 md0_few mx0 mx0_one Mc.svL none 0 R c2 C c3 1 (by decide) (by decide) (by decide) sv_lists (fun _ => True) S W G (md0_rd W) h
  rw [show Mc.thOf md0 = Mc.th0 from rfl, Mc.sv_checks.2.2] at this
  exact this
theorem al_size (R C : Option Addr) (c2 c3 : Nat) (W : World) : Calls Tryz.prog 18 #[.agg #[.slice none 0 0, .slice R 1 c2, .int .i64 0, .slice C 3 c3]] W fun e w' => e = .returned (.int .i64 3) ∧ Below W.heap.size W w' := size_any Mc.svL none 0 R c2 C c3 W
theorem al_print (R C : Option Addr) (c2 c3 : Nat) (S : Nat → Prop) (W : World) (G : GlobM W) (h : MfAt S W Mc.sv none R C) : Calls Tryz.prog 14 #[.agg #[.slice none 0 0, .slice R 1 c2, .int .i64 0, .slice C 2 c3]] W fun e w' => e = .returned (.string ⟨#[102, 117, 110, 99, 32, 40, 41, 32, 45, 62, 32, 40, 105, 51, 50, 41, 32, 115, 108, 111, 116, 115, 32, 48, 10, 99, 111, 110, 115, 116, 32, 55, 32, 114, 48, 32, 61, 10, 114, 101, 116, 117, 114, 110, 32, 61, 32, 114, 48, 10]⟩) ∧ Below W.heap.size W w' := by
  have := print_any Mc.sv sv_ok S none 0 R c2 C c3 W G h
  rw [Mc.sv_print] at this
  exact this
def PSv (N : Nat) (e : Ending) (w' : World) : Prop := ∃ P c1 R c2 C c3, e = .returned (.tuple #[.agg #[.slice P 0 c1, .slice R 1 c2, .int .i64 0, .slice C 2 c3], .int .i64 0, .int .i64 0]) ∧ MfAt (fun g => N ≤ g) w' Mc.sv P R C
theorem al_parse (W : World) (G : GlobM W) : Calls Tryz.prog 19 #[.string ⟨#[102, 117, 110, 99, 32, 40, 41, 32, 45, 62, 32, 40, 105, 51, 50, 41, 32, 115, 108, 111, 116, 115, 32, 48, 10, 99, 111, 110, 115, 116, 32, 55, 32, 114, 48, 32, 61, 10, 114, 101, 116, 117, 114, 110, 32, 61, 32, 114, 48, 10]⟩] W fun e w' => PSv W.heap.size e w' ∧ Below W.heap.size W w' := by
  have := mparse_any Mc.svT (by decide) (Nat.le_trans (Mc.split_head _) (by decide)) W G
  rw [Mc.sv_parse] at this
  exact this
def PBd (N : Nat) (e : Ending) (w' : World) : Prop := ∃ P c1 R c2 C c3, e = .returned (.tuple #[.agg #[.slice P 0 c1, .slice R 0 c2, .int .i64 0, .slice C 0 c3], .int .i64 2, .int .i64 4])
theorem al_parseB (W : World) (G : GlobM W) : Calls Tryz.prog 19 #[.string ⟨#[102, 117, 110, 99, 32, 40, 41, 32, 45, 62, 32, 40, 41, 32, 115, 108, 111, 116, 115, 32, 48, 10, 99, 111, 110, 115, 116, 32, 48, 55, 32, 114, 48, 32, 61, 10]⟩] W fun e w' => PBd W.heap.size e w' ∧ Below W.heap.size W w' := by
  have := mparse_any Mc.bdT (by decide) (Nat.le_trans (Mc.split_head _) (by decide)) W G
  rw [Mc.bd_parse] at this
  refine this.mono ?_
  rintro e w' ⟨⟨P, c1, R, c2, C, c3, he, -⟩, hb⟩
  exact ⟨⟨P, c1, R, c2, C, c3, he⟩, hb⟩
theorem al_same (P R C R' C' : Option Addr) (c1 c2 c3 d2 d3 : Nat) (S S' : Nat → Prop) (W : World) (h : MfAt S W Mc.sv P R C) (h' : MfAt S' W Mc.sv none R' C') : Calls Tryz.prog 16 #[.agg #[.slice P 0 c1, .slice R 1 c2, .int .i64 0, .slice C 2 c3], .agg #[.slice none 0 0, .slice R' 1 d2, .int .i64 0, .slice C' 2 d3]] W fun e w' => e = .returned (.bool true) ∧ Below W.heap.size W w' := by
  have := same_mf_any Mc.sv Mc.sv (by decide) (by decide) (by decide) sv_lists0 S S' P c1 R c2 C c3 none 0 R' d2 C' d3 W h h'
  rw [decide_eq_true rfl] at this
  exact this
set_option maxHeartbeats 16000000 in
set_option maxRecDepth 100000 in
theorem alive_any (w : World) (G : GlobM w) : Calls Tryz.prog 11 #[] w fun e w' => e = .returned (.bool true) ∧ Below w.heap.size w w' := by
  obtain ⟨zI, bI, hinfo, hzs, hbb⟩ := info_mi
  obtain ⟨i0, hi0, hz0, hz1, hz2⟩ := info_parts hinfo
  have HG := Lib.hid G
  clear G
  go_enter Tryz.func11, Tryz.ntmps11
  go_upto_region 2 with (go_at_call 23; (with_reducible refine (seven_any _).mono ?_); rintro e w1 ⟨⟨S, R, c2, C, c3, M, rfl, hsv, hM⟩, hb⟩; have HA := Lib.hid (ASt.new (c2 := c2) hb hsv hM HG.out); have hlt := hb.size; clear hsv hM hb)
  refine at_code (F := fun W => Hid (ASt w W w1.heap.size R c2 C c3 M)) HA ?_
  clear HA hlt
  obtain ⟨Kf, hK⟩ : ∃ K, w1.heap.size = K := ⟨_, rfl⟩
  simp only [hK]
  clear hK
  intro W2 A2
  go_upto_region 4 with (go_at_call 19; (with_reducible refine (al_parse _ A2.out.glob).mono ?_); rintro e w3 ⟨⟨P', e1, R', e2, C', e3, rfl, hat⟩, hb⟩; have A3 := Lib.hid (A2.out.step hb); have HAT := Lib.hid hat; have hs3 := hb.size; have hk3 := A2.out.fn.lt; clear hat hb)
  refine at_code (F := fun W => Hid (ASt w W Kf R c2 C c3 M) ∧ Hid (AG W Kf w3.heap.size W2.heap.size P' e1 R' e2 C' e3)) ⟨Lib.hid (A3.out.step ((Below.refl _ _).alloc (Nat.le_refl _) _)), Lib.hid (AG.new HAT.out hk3 hs3)⟩ ?_
  clear A3 HAT hs3 hk3 A2
  obtain ⟨Kg, hKg⟩ : ∃ K, w3.heap.size = K := ⟨_, rfl⟩
  obtain ⟨N3, hN3⟩ : ∃ K, W2.heap.size = K := ⟨_, rfl⟩
  simp only [hKg, hN3]
  clear hKg hN3
  rintro W3 ⟨A3, G3⟩
  go_upto_region 5 with (go_at_call 19; (with_reducible refine (al_parseB _ A3.out.glob).mono ?_); rintro e w4 ⟨⟨P4, f1, R4, f2, C4, f3, rfl⟩, hb⟩; have A4 := Lib.hid (A3.out.step hb); have G4 := Lib.hid (G3.out.step hb); clear hb)
  refine at_code (F := fun W => Hid (ASt w W Kf R c2 C c3 M) ∧ Hid (AG W Kf Kg N3 P' e1 R' e2 C' e3)) ⟨Lib.hid (A4.out.step ((Below.refl _ _).alloc (Nat.le_refl _) _)), Lib.hid (G4.out.step ((Below.refl _ _).alloc (Nat.le_refl _) _))⟩ ?_
  clear A4 G4 A3 G3
  rintro W5 ⟨A5, G5⟩
  obtain ⟨d0, d1, d2, d3⟩ := A5.out.cells
  go_upto_region 6 with (go_at_call 12; (with_reducible refine (al_check1 _ _ _ _ _ _ A5.out.glob A5.out.mf).mono ?_); rintro e w6 ⟨rfl, hb⟩; have A6 := Lib.hid (A5.out.step hb); have G6 := Lib.hid (G5.out.step hb); clear hb d0 d1 d2 d3 A5 G5)
  obtain ⟨d0, d1, d2, d3⟩ := A6.out.cells
  go_upto_region 7 with (go_at_call 12; (with_reducible refine (al_check0 _ _ _ _ _ _ A6.out.glob A6.out.mf).mono ?_); rintro e w7 ⟨rfl, hb⟩; have A7 := Lib.hid (A6.out.step hb); have G7 := Lib.hid (G6.out.step hb); clear hb d0 d1 d2 d3 A6 G6)
  refine at_code (F := fun W => Hid (ASt w W Kf R c2 C c3 M) ∧ Hid (AG W Kf Kg N3 P' e1 R' e2 C' e3)) ⟨A7, G7⟩ ?_
  clear A7 G7
  rintro W4 ⟨A7, G7⟩
  obtain ⟨d0, d1, d2, d3⟩ := A7.out.cells
  go_upto_region 8 with (at_builtin; have b1 := (Below.refl W4.heap.size W4).alloc (Nat.le_refl _) (.cells #[.bool false, .int .i64 0] 64); have b2 := b1.alloc b1.size (.cells #[.bool false, .int .i64 0] 64); have haa := b2.alloc b2.size (.cells #[.int .i64 1, .int .i64 0, .int .i64 0, .int .i64 0, .int .u64 0, .slice (some ⟨W4.heap.size, 0, none⟩) 1 1, .slice (some ⟨W4.heap.size + 1, 0, none⟩) 1 1, .slice none 0 0, .int .i64 0] 61); have hs2 : ((W4.alloc (.cells #[.bool false, .int .i64 0] 64)).alloc (.cells #[.bool false, .int .i64 0] 64)).heap.size = W4.heap.size + 1 + 1 := (by simp); have SA := A7.out.step haa; have GA := G7.out.step haa; have VD := ((Var.new W4 #[.bool false, .int .i64 0] 64).alloc (.cells #[.bool false, .int .i64 0] 64)).alloc (.cells #[.int .i64 1, .int .i64 0, .int .i64 0, .int .i64 0, .int .u64 0, .slice (some ⟨W4.heap.size, 0, none⟩) 1 1, .slice (some ⟨W4.heap.size + 1, 0, none⟩) 1 1, .slice none 0 0, .int .i64 0] 61); have VE := (Var.newE (W4.alloc (.cells #[.bool false, .int .i64 0] 64)) #[.bool false, .int .i64 0] 64 (K := W4.heap.size + 1) (by simp)).alloc (.cells #[.int .i64 1, .int .i64 0, .int .i64 0, .int .i64 0, .int .u64 0, .slice (some ⟨W4.heap.size, 0, none⟩) 1 1, .slice (some ⟨W4.heap.size + 1, 0, none⟩) 1 1, .slice none 0 0, .int .i64 0] 61); have hkl := A7.out.fn.lt; obtain ⟨Sq, q1, q2⟩ := SA.sv; have hown := q1.own; rw [SA.len] at hown; have AP := Lib.hid (fun W' C' c' own hg => SA.app (W' := W') (C' := C') (c' := c') (Sv := fun k => k = W4.heap.size ∨ k = W4.heap.size + 1) (v := (Mc.sv2, (some ⟨W4.heap.size, 0, none⟩, 1), (some ⟨W4.heap.size + 1, 0, none⟩, 1), none, 0)) ⟨⟨pl_rd VD (.inl rfl), pl_rd VE (.inr rfl), RdT.nil_⟩, Nat.le_refl 1⟩ (fun k hk => by rcases hk with rfl | rfl <;> omega) rfl own hg); have GP := Lib.hid (fun W' u hg => GA.app (W' := W') SA hg u); refine app_rs2 Tryz.underlying37 hi0 hz0 hz1 hz2 hzs (by omega) encM_len encM_one _ rfl (.tmp 40) (.tmp 46) rfl (w.heap.size + 1) (.slice C 2 c3) 2 M (by rfl) hown [((Mc.sv2, (some ⟨W4.heap.size, 0, none⟩, 1), (some ⟨W4.heap.size + 1, 0, none⟩, 1), none, 0) : MV)] 1 1 _ rfl (by rw [hs2]; rfl) (one_mi _ Mc.sv2 (some ⟨W4.heap.size, 0, none⟩) 1 (some ⟨W4.heap.size + 1, 0, none⟩) 1 none 0) (by omega) hbb (by have := SA.bel.size; have := SA.lo; have := SA.fn.lt; omega) ?_; intro C6 c6 w6 own6 hg6 hob6; have V6 := var_grown SA.fn hown (by decide) hg6; have n1 := V6.cells 3; have n2 := V6.froz 3; have n3 := V6.lt)
  refine at_code (F := fun W => Hid (AL w W Kf R c2 C6 c6) ∧ Hid (AG W Kf Kg N3 P' e1 R' e2 C' e3)) ⟨Lib.hid (AP.out _ _ _ own6 hg6), Lib.hid (GP.out _ _ hg6)⟩ ?_
  clear own6 hg6 AP GP A7 G7
  rintro W8 ⟨A8, G8⟩
  obtain ⟨d0, d1, d2, d3⟩ := A8.out.cells
  go_upto_region 9 with (go_at_call 12; (with_reducible refine (al_checkL _ _ _ _ _ _ A8.out.glob A8.out.at_).mono ?_); rintro e w9 ⟨rfl, hb⟩; have A9 := Lib.hid (A8.out.step hb); have G9 := Lib.hid (G8.out.step hb); clear hb d0 d1 d2 d3 A8 G8)
  refine at_code (F := fun W => Hid (AL w W Kf R c2 C6 c6) ∧ Hid (AG W Kf Kg N3 P' e1 R' e2 C' e3)) ⟨A9, G9⟩ ?_
  clear A9 G9
  rintro W9 ⟨A9, G9⟩
  obtain ⟨d0, d1, d2, d3⟩ := A9.out.cells
  obtain ⟨g0, g1, g2, g3⟩ := G9.out.cells
  replace A9 := Lib.hid (A9.out.step (show Below W9.heap.size W9 (World.drew W9) from below_drewN W9 1))
  replace G9 := Lib.hid (G9.out.step (show Below W9.heap.size W9 (World.drew W9) from below_drewN W9 1))
  go_region_held3 (fun w' => w'.cell? ⟨Kf, 0, none⟩ = some (.slice none 0 0) ∧ w'.cell? ⟨Kf, 1, none⟩ = some (.slice R 1 c2) ∧ w'.cell? ⟨Kf, 2, none⟩ = some (.int .i64 0) ∧ w'.cell? ⟨Kf, 3, none⟩ = some (.slice C6 3 c6) ∧ w'.cell? ⟨Kg, 0, none⟩ = some (.slice P' 0 e1) ∧ w'.cell? ⟨Kg, 1, none⟩ = some (.slice R' 1 e2) ∧ w'.cell? ⟨Kg, 2, none⟩ = some (.int .i64 0) ∧ w'.cell? ⟨Kg, 3, none⟩ = some (.slice C' 2 e3))
    (go_keep)
    (first
    | (go_at_call 23; (with_reducible refine (seven_any _).mono ?_); rintro e wa ⟨⟨Sa, Ra, a2, Ca, a3, Ma, rfl, hsa, hMa⟩, hb⟩; have HSV := Lib.hid hsa.mf; rw [hMa] at HSV; replace A9 := Lib.hid (A9.out.step hb); replace G9 := Lib.hid (G9.out.step hb); clear d0 d1 d2 d3 g0 g1 g2 g3; obtain ⟨d0, d1, d2, d3⟩ := A9.out.cells; obtain ⟨g0, g1, g2, g3⟩ := G9.out.cells; clear hb hsa hMa)
    | (go_at_call 14; (with_reducible refine (al_print _ _ _ _ _ _ A9.out.glob HSV.out).mono ?_); rintro e wb ⟨rfl, hb⟩; clear HSV; replace A9 := Lib.hid (A9.out.step hb); replace G9 := Lib.hid (G9.out.step hb); clear d0 d1 d2 d3 g0 g1 g2 g3; obtain ⟨d0, d1, d2, d3⟩ := A9.out.cells; obtain ⟨g0, g1, g2, g3⟩ := G9.out.cells; clear hb)
    | (go_at_call 16; (with_reducible refine (al_same _ _ _ _ _ _ _ _ _ _ _ _ _ G9.out.at_ HSV.out).mono ?_); rintro e wc ⟨rfl, hb⟩; clear HSV; replace A9 := Lib.hid (A9.out.step hb); replace G9 := Lib.hid (G9.out.step hb); clear d0 d1 d2 d3 g0 g1 g2 g3; obtain ⟨d0, d1, d2, d3⟩ := A9.out.cells; obtain ⟨g0, g1, g2, g3⟩ := G9.out.cells; clear hb)
    | (go_at_call 18; (with_reducible refine (al_size _ _ _ _ _).mono ?_); rintro e wd ⟨rfl, hb⟩; replace A9 := Lib.hid (A9.out.step hb); replace G9 := Lib.hid (G9.out.step hb); clear d0 d1 d2 d3 g0 g1 g2 g3; obtain ⟨d0, d1, d2, d3⟩ := A9.out.cells; obtain ⟨g0, g1, g2, g3⟩ := G9.out.cells; clear hb))
  all_goals
    go_wp2
    go_ret
    exact ⟨rfl, A9.out.bel⟩
end Go.Proofs.YtadnfekogmjieaaGreatDoor
