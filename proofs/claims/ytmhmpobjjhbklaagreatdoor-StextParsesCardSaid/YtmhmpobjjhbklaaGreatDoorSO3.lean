/-
  Layer 40, the program: readType.
-/
import Derived.Test.YtmhmpobjjhbklaaGreatDoorSO2
set_option linter.unusedVariables false
set_option linter.unusedSimpArgs false
namespace Go.Proofs.YtmhmpobjjhbklaaGreatDoor
namespace St
def lFunc : W := [102, 117, 110, 99, 32, 40]
def lMid : W := [41, 32, 45, 62, 32, 40]
def lPar : W := [41]
def bodyT (s : W) : W := Lib.trimSuffix (Lib.trimPrefix s lFunc) lPar
def typeP (s : W) : (List Int × List Int) × Bool :=
  if Lib.hasPrefix s lFunc && (Lib.hasSuffix (Lib.trimPrefix s lFunc) lPar && (Lib.cut (bodyT s) lMid).2.2) then
    (((listP (Lib.cut (bodyT s) lMid).1).1, (listP (Lib.cut (bodyT s) lMid).2.1).1), (listP (Lib.cut (bodyT s) lMid).1).2 && (listP (Lib.cut (bodyT s) lMid).2.1).2)
  else (([], []), false)
theorem trimP_len (s p : W) : (Lib.trimPrefix s p).length ≤ s.length := by unfold Lib.trimPrefix; split <;> simp
theorem trimS_len (s p : W) : (Lib.trimSuffix s p).length ≤ s.length := by
  unfold Lib.trimSuffix
  split
  · rw [List.length_take]; omega
  · exact Nat.le_refl _
theorem cut_len (s p : W) : (Lib.cut s p).1.length ≤ s.length ∧ (Lib.cut s p).2.1.length ≤ s.length := by
  unfold Lib.cut
  split
  · dsimp only; rw [List.length_take, List.length_drop]; omega
  · simp
theorem split_len (s sep : W) (h1 : 1 ≤ sep.length) : (Lib.split s sep).length ≤ s.length + 1 := by
  have hsz : (ByteArray.mk s.toArray).size = s.length := by simp [ByteArray.size]
  have hsp : (ByteArray.mk sep.toArray).size = sep.length := by simp [ByteArray.size]
  have e3 : Lib.split s sep = (Lib.splitB ⟨sep.toArray⟩ 0 (Lib.countB ⟨s.toArray⟩ ⟨sep.toArray⟩) ⟨s.toArray⟩).map (·.data.toList) := by rw [Lib.splitB_data]; rfl
  rw [e3, List.length_map, Lib.splitB_all _ (by omega) _ _ _ rfl]
  have := Lib.countB_le ⟨sep.toArray⟩ (by omega) _ ⟨s.toArray⟩ (Nat.le_refl _)
  omega
end St
open Go.RowKit
open St (InR)
theorem mk_size (s : List UInt8) : (ByteArray.mk s.toArray).size = s.length := by simp [ByteArray.size]
theorem cutPrefix_any (s p : List UInt8) (w : World) : Calls Tryz.prog 87 #[.string ⟨s.toArray⟩, .string ⟨p.toArray⟩] w fun e w' => e = .returned (.tuple #[.string ⟨(Lib.trimPrefix s p).toArray⟩, .bool (Lib.hasPrefix s p)]) ∧ w = w' :=
  (Tryz.strings_CutPrefix ⟨s.toArray⟩ ⟨p.toArray⟩ w).mono fun _ _ h => ⟨h.1, h.2.symm⟩
theorem cutSuffix_any (s p : List UInt8) (hs : s.length ≤ 1000000) (w : World) : Calls Tryz.prog 88 #[.string ⟨s.toArray⟩, .string ⟨p.toArray⟩] w fun e w' => e = .returned (.tuple #[.string ⟨(Lib.trimSuffix s p).toArray⟩, .bool (Lib.hasSuffix s p)]) ∧ w = w' :=
  (Tryz.strings_CutSuffix ⟨s.toArray⟩ ⟨p.toArray⟩ w (by rw [mk_size]; omega)).mono fun _ _ h => ⟨h.1, h.2.symm⟩
theorem cut_any (s p : List UInt8) (hs : s.length ≤ 1000000) (w : World) (G : Glob w) : Calls Tryz.prog 89 #[.string ⟨s.toArray⟩, .string ⟨p.toArray⟩] w fun e w' => e = .returned (.tuple #[.string ⟨(Lib.cut s p).1.toArray⟩, .string ⟨(Lib.cut s p).2.1.toArray⟩, .bool (Lib.cut s p).2.2]) ∧ Below w.heap.size w w' := by
  obtain ⟨m, hm⟩ := G.mx
  refine (Tryz.strings_Cut ⟨s.toArray⟩ ⟨p.toArray⟩ m w (by rw [mk_size]; omega) hm).mono ?_
  rintro e w' ⟨h, n, rfl⟩
  exact ⟨h, below_drewN _ _⟩
/-- A row lies apart from a block that holds none of its values. -/
theorem RdS.away {α : Type} {enc : α → List Value} {w w' : World} {B K k : Nat} {A : Option Addr} {cs : Array Value} {t : TypeId} {l : List α} (h : RdS w B A k enc l) (hk : ∀ x, (enc x).length = k) (hk0 : 0 < k) (hv : Var w K cs t) (hne : ∀ v ∈ cs.toList, ∀ x, (enc x)[0]? ≠ some v) (hg : w.grownBy w' (some K)) : RdS w' B A k enc l := fun hl => by
  obtain ⟨g, o, e, hb, hc⟩ := h hl
  have h0 : 0 < l.length := List.length_pos_iff.2 hl
  obtain ⟨v, hv0⟩ : ∃ v, (enc l[0])[0]? = some v := ⟨(enc l[0])[0]'(by rw [hk]; exact hk0), List.getElem?_eq_getElem _⟩
  have hne : some g ≠ some K := fun e => by
    injection e with e
    subst e
    have := hc 0 h0 0 _ hv0
    rw [hv.cells] at this
    exact hne v (by rw [← Array.getElem?_toList] at this; exact List.mem_of_getElem? this) _ hv0
  exact ⟨g, o, e, hb, fun i hi j v hj => hg.cell (hc i hi j v hj) hne⟩
def TypeOut (N : Nat) (R : (List Int × List Int) × Bool) (e : Ending) (w' : World) : Prop :=
  ∃ A c B d, e = .returned (.tuple #[.agg #[.slice A R.1.1.length c, .slice B R.1.2.length d], .bool R.2]) ∧ RdZ w' (fun g => N ≤ g) A R.1.1 ∧ RdZ w' (fun g => N ≤ g) B R.1.2

set_option maxHeartbeats 4000000 in
set_option maxRecDepth 100000 in
/-- stext.readType. -/
theorem sreadType_any (s : St.W) (hs : s.length ≤ 900000) (w : World) (G : Glob w) :
    Calls Tryz.prog 65 #[.string ⟨s.toArray⟩] w fun e w' => TypeOut w.heap.size (St.typeP s) e w' ∧ Below w.heap.size w w' := by
  have h1 := St.trimP_len s St.lFunc
  have h2 := St.trimS_len (Lib.trimPrefix s St.lFunc) St.lPar
  have h3 := St.cut_len (Lib.trimSuffix (Lib.trimPrefix s St.lFunc) St.lPar) St.lMid
  have HP := Lib.hid (fun W => cutPrefix_any s St.lFunc W)
  obtain ⟨R, hT⟩ : ∃ x, St.typeP s = x := ⟨_, rfl⟩
  rw [hT]
  unfold St.typeP St.bodyT at hT
  obtain ⟨b1, e1⟩ : ∃ x, Lib.trimPrefix s St.lFunc = x := ⟨_, rfl⟩
  obtain ⟨ok, e2⟩ : ∃ x, Lib.hasPrefix s St.lFunc = x := ⟨_, rfl⟩
  rw [e1, e2] at HP
  rw [e1] at h1 h2 h3
  have HS := Lib.hid (fun W => cutSuffix_any b1 St.lPar (by omega) W)
  obtain ⟨b2, e3⟩ : ∃ x, Lib.trimSuffix b1 St.lPar = x := ⟨_, rfl⟩
  obtain ⟨is, e4⟩ : ∃ x, Lib.hasSuffix b1 St.lPar = x := ⟨_, rfl⟩
  rw [e3, e4] at HS
  rw [e3] at h2 h3
  have HC := Lib.hid (fun W (G : Glob W) => cut_any b2 St.lMid (by omega) W G)
  obtain ⟨⟨pa, ra, has⟩, e5⟩ : ∃ x, Lib.cut b2 St.lMid = x := ⟨_, rfl⟩
  rw [e5] at HC h3
  rw [e1, e2, e3, e4, e5] at hT
  dsimp only at HC h3 hT
  have HL1 := Lib.hid (fun W (G : Glob W) => sreadList_any pa (by omega) (Nat.le_trans (St.split_len _ _ (by simp)) (by omega)) W G)
  have HL2 := Lib.hid (fun W (G : Glob W) => sreadList_any ra (by omega) (Nat.le_trans (St.split_len _ _ (by simp)) (by omega)) W G)
  obtain ⟨⟨ps, a⟩, e6⟩ : ∃ x, St.listP pa = x := ⟨_, rfl⟩
  obtain ⟨⟨rs, b⟩, e7⟩ : ∃ x, St.listP ra = x := ⟨_, rfl⟩
  rw [e6] at HL1
  rw [e7] at HL2
  rw [e6, e7] at hT
  dsimp only at HL1 HL2 hT
  have HT := Lib.hid hT.symm
  clear hT e1 e2 e3 e4 e5 e6 e7 h1 h2 h3
  have HG := Lib.hid G
  clear G
  have HB0 := Lib.hid ((Below.refl w.heap.size w).alloc (Nat.le_refl _) (.cells #[.slice none 0 0, .slice none 0 0] 24))
  unfold St.lFunc at HP
  unfold St.lPar at HS
  unfold St.lMid at HC
  go_enter Tryz.func65, Tryz.ntmps65
  go_upto_region 4 with (first
    | (go_at_call 87; refine (HP.out _).mono ?_; rintro e w1 ⟨rfl, rfl⟩)
    | (go_at_call 88; refine (HS.out _).mono ?_; rintro e w1 ⟨rfl, rfl⟩)
    | (go_at_call 89; refine (HC.out _ (HG.out.below HB0.out)).mono ?_; rintro e w1 ⟨rfl, hb⟩; have B1 := HB0.out.trans (hb.mono (by simp)); have V1 := (Var.new w #[.slice none 0 0, .slice none 0 0] 24).below hb (by simp); clear hb))
  refine at_code (F := fun W => Hid (Var W w.heap.size #[.slice none 0 0, .slice none 0 0] 24) ∧ Hid (Below w.heap.size w W)) ⟨Lib.hid V1, Lib.hid B1⟩ ?_
  clear V1 B1 HP HS HC HB0
  rintro w2 ⟨V2, B2⟩
  obtain ⟨q0, q1⟩ := cells2 V2.out
  have hlt := V2.out.lt
  have hz0 := V2.out.froz 0
  have hz1 := V2.out.froz 1
  rcases ok with _ | _
  · obtain rfl := HT.out
    clear HT HL1 HL2
    go_wp2
    · skip
      refine bodyPost_ret (results_cell_row_tmp rfl _ _ w.heap.size _ _ (0, 0) _ rfl ((V2.out.set 0 _).set 1 _) Tryz.underlying24 rfl (by kernel_rfl)) rfl ?_
      exact ⟨⟨none, 0, none, 0, rfl, RdT.nil_, RdT.nil_⟩, below_set B2.out (Nat.le_refl _) _ _⟩
  rcases is with _ | _
  · obtain rfl := HT.out
    clear HT HL1 HL2
    go_wp2
    · skip
      refine bodyPost_ret (results_cell_row_tmp rfl _ _ w.heap.size _ _ (0, 0) _ rfl ((V2.out.set 0 _).set 1 _) Tryz.underlying24 rfl (by kernel_rfl)) rfl ?_
      exact ⟨⟨none, 0, none, 0, rfl, RdT.nil_, RdT.nil_⟩, below_set B2.out (Nat.le_refl _) _ _⟩
  rcases has with _ | _
  · obtain rfl := HT.out
    clear HT HL1 HL2
    go_wp2
    · skip
      refine bodyPost_ret (results_cell_row_tmp rfl _ _ w.heap.size _ _ (0, 0) _ rfl ((V2.out.set 0 _).set 1 _) Tryz.underlying24 rfl (by kernel_rfl)) rfl ?_
      exact ⟨⟨none, 0, none, 0, rfl, RdT.nil_, RdT.nil_⟩, below_set B2.out (Nat.le_refl _) _ _⟩
  have HT2 : Hid (R = ((ps, rs), a && b)) := Lib.hid HT.out
  clear HT
  go_upto_region 8 with (first
    | (go_at_call 90; refine (HL1.out _ (HG.out.below B2.out)).mono ?_; clear HL1; rintro e w3 ⟨⟨A, c, rfl, r1⟩, hb⟩; have V3 := V2.out.below hb hlt; have B3 := B2.out.trans (hb.mono B2.out.size); have r1 := RdZ.mono (S' := fun g => w.heap.size + 1 ≤ g) r1 (fun g _ h => Nat.le_trans hlt h); clear hb)
    | (go_at_call 90; refine (HL2.out _ (HG.out.below B3)).mono ?_; rintro e w4 ⟨⟨B, d, rfl, r2⟩, hb⟩; have V4 := V3.below hb V3.lt; have B4 := B3.trans (hb.mono B3.size); have r3 := r1.on hb; have r2 := RdZ.mono (S' := fun g => w.heap.size + 1 ≤ g) r2 (fun g _ h => Nat.le_trans V3.lt h); clear hb))
  refine at_code (F := fun W => Hid (Var W w.heap.size #[.slice none 0 0, .slice none 0 0] 24) ∧ Hid (Below w.heap.size w W) ∧ Hid (RdZ W (fun g => w.heap.size + 1 ≤ g) A ps) ∧ Hid (RdZ W (fun g => w.heap.size + 1 ≤ g) B rs)) ⟨Lib.hid V4, Lib.hid B4, Lib.hid r3, Lib.hid r2⟩ ?_
  clear V4 B4 r3 r2 V2 B2 q0 q1 hlt hz0 hz1 r1 V3 B3 HG HL2
  rintro w5 ⟨V2, B2, r1, r2⟩
  obtain ⟨q0, q1⟩ := cells2 V2.out
  have hlt := V2.out.lt
  have hz0 := V2.out.froz 0
  have hz1 := V2.out.froz 1
  have HG2 := Lib.hid (fun a b => World.grownBy.trans (grown_set w5 w.heap.size 0 a) (grown_set _ w.heap.size 1 b))
  have HR := Lib.hid (fun a b => RdZ.mono (S' := fun g => w.heap.size ≤ g) (r1.out.keep (keep_grown (HG2.out a b) (by omega)) (HG2.out a b).size) (fun g _ h => Nat.le_of_succ_le h))
  have HR2 := Lib.hid (fun a b => RdZ.mono (S' := fun g => w.heap.size ≤ g) (r2.out.keep (keep_grown (HG2.out a b) (by omega)) (HG2.out a b).size) (fun g _ h => Nat.le_of_succ_le h))
  rcases a with _ | _ <;> go_wp2
  all_goals (refine bodyPost_ret (results_cell_row_tmp rfl _ _ w.heap.size _ _ (0, 0) _ rfl ((V2.out.set 0 _).set 1 _) Tryz.underlying24 rfl (by kernel_rfl)) rfl ?_)
  all_goals (obtain rfl := HT2.out)
  all_goals exact ⟨⟨A, c, B, d, rfl, HR.out _ _, HR2.out _ _⟩, below_set B2.out (Nat.le_refl _) _ _⟩
end Go.Proofs.YtmhmpobjjhbklaaGreatDoor
