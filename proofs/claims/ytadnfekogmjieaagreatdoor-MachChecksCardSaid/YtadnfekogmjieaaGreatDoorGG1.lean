/-
  Layer 51, the program: header. (Printed by gen_mq6.py.)
  Layer 51, the program: Parse. (Printed by gen_mq7.py.)
-/
import Derived.Test.YtadnfekogmjieaaGreatDoorGTj
import Derived.Test.YtadnfekogmjieaaGreatDoorGMQ3
import Derived.Test.YtadnfekogmjieaaGreatDoorGMS5
import Derived.Test.YtadnfekogmjieaaGreatDoorGTk
import Derived.Deep.Cut
import Derived.Deep.RegionHeld3
import Derived.Test.YtadnfekogmjieaaGreatDoorGMQ5
set_option linter.unusedVariables false
set_option linter.unusedSimpArgs false
namespace Go.Proofs.YtadnfekogmjieaaGreatDoor
open Go.RowKit
open Mc (Pl Mi Mf)
namespace Mc
theorem join_ge : ∀ (L : List W), L ≠ [] → (∀ x ∈ L, 3 ≤ x.length) → 5 * L.length ≤ (Lib.join L [44, 32]).length + 2
  | [], h, _ => absurd rfl h
  | [x], _, hx => by
    have := hx x (by simp)
    rw [Lib.join_one]; simp; omega
  | x :: y :: L, _, hx => by
    have h1 := hx x (by simp)
    have h2 := join_ge (y :: L) (by simp) (fun z hz => hx z (List.mem_cons_of_mem _ hz))
    rw [Lib.join_cons, joinTail_ne _ (by simp)]
    simp only [List.length_append, List.length_cons, List.length_nil] at h2 ⊢
    omega
theorem valsO_len (s : W) : 5 * (valsO s).1.length ≤ s.length + 2 := by
  unfold valsO
  split
  · simp
  split
  · simp
  obtain ⟨m, hm⟩ : ∃ m, (s.take (s.length - 1)).drop 1 = m := ⟨_, rfl⟩
  have hml : m.length ≤ s.length := by rw [← hm, List.length_drop, List.length_take]; omega
  rw [hm]
  obtain ⟨j1, j2⟩ := join_split [44, 32] (by simp) m.length m (Nat.le_refl _)
  unfold valsP
  split
  · rename_i h
    have := join_ge _ j2 (fun x hx => (find_val (List.all_eq_true.1 h x hx)).2)
    rw [j1] at this
    simp only [List.length_map] at this ⊢
    omega
  · simp
end Mc
def hdV (h : (List Int × List Int) × Int) (A : Option Addr) (c : Nat) (B : Option Addr) (d : Nat) : Array Value := #[.slice A h.1.1.length c, .slice B h.1.2.length d, .int .i64 h.2, .slice none 0 0]
def HOut (N : Nat) (R : ((List Int × List Int) × Int) × Bool) (e : Ending) (w' : World) : Prop :=
  ∃ A c B d, e = .returned (.tuple #[.agg (hdV R.1 A c B d), .bool R.2]) ∧ RdZ w' (fun g => N ≤ g) A R.1.1.1 ∧ RdZ w' (fun g => N ≤ g) B R.1.1.2
theorem info_mfun : (Tryz.prog.info? 39).map (·.size) = some 4 := by kernel_rfl
theorem hFin {w W X : World} {Kx : Nat} {A B : Option Addr} {l m : List Int} (h1 : w.heap.size < Kx) (h2 : w.heap.size ≤ W.heap.size) (hB : Below w.heap.size w W) (hX : Below W.heap.size W X) (h5 : RdZ W (fun g => w.heap.size + 1 ≤ g) A l) (h6 : RdZ W (fun g => w.heap.size + 1 ≤ g) B m) (cs : Array Value) :
    Below w.heap.size w (X.setRow w.heap.size cs) ∧ RdZ (X.setRow w.heap.size cs) (fun g => w.heap.size ≤ g) A l ∧ RdZ (X.setRow w.heap.size cs) (fun g => w.heap.size ≤ g) B m := by
  have hg := setRow_grown X w.heap.size cs
  exact ⟨below_grown (hB.trans (hX.mono h2)) hg (Nat.le_trans h2 hX.size) (Nat.le_refl _), ((h5.on hX).keep (keep_grown hg (by omega)) hg.size).mono (fun g _ h => Nat.le_of_succ_le h), ((h6.on hX).keep (keep_grown hg (by omega)) hg.size).mono (fun g _ h => Nat.le_of_succ_le h)⟩

set_option maxHeartbeats 16000000 in
set_option maxRecDepth 100000 in
theorem mheader_any (s : Mc.W) (hs : s.length ≤ 4900) (w : World) (G : Glob w) :
    Calls Tryz.prog 48 #[.string ⟨s.toArray⟩] w fun e w' => HOut w.heap.size (Mc.headerP s) e w' ∧ Below w.heap.size w w' := by
  have h1 := Mc.trimP_len s Mc.lFunc
  have h2 := Mc.cut_len (Lib.trimPrefix s Mc.lFunc) Mc.lSlots
  have h3 := Mc.cut_len (Lib.cut (Lib.trimPrefix s Mc.lFunc) Mc.lSlots).1 Mc.lArrow
  have HP := Lib.hid (fun W => cutPrefix_any s Mc.lFunc W)
  obtain ⟨R, hT⟩ : ∃ x, Mc.headerP s = x := ⟨_, rfl⟩
  rw [hT]
  unfold Mc.headerP Mc.cutB Mc.cutA at hT
  obtain ⟨b1, e1⟩ : ∃ x, Lib.trimPrefix s Mc.lFunc = x := ⟨_, rfl⟩
  obtain ⟨ok, e2⟩ : ∃ x, Lib.hasPrefix s Mc.lFunc = x := ⟨_, rfl⟩
  rw [e1, e2] at HP
  rw [e1] at h1 h2 h3
  have HC1 := Lib.hid (fun W (G : Glob W) => cut_any b1 Mc.lSlots (by omega) W G)
  obtain ⟨⟨tx, sl, is⟩, e3⟩ : ∃ x, Lib.cut b1 Mc.lSlots = x := ⟨_, rfl⟩
  rw [e3] at HC1 h2 h3
  dsimp only at HC1 h2 h3
  have HC2 := Lib.hid (fun W (G : Glob W) => cut_any tx Mc.lArrow (by omega) W G)
  obtain ⟨⟨pa, ra, has⟩, e4⟩ : ∃ x, Lib.cut tx Mc.lArrow = x := ⟨_, rfl⟩
  rw [e4] at HC2 h3
  rw [e1, e2, e3] at hT
  dsimp only at HC2 h3 hT
  rw [e4] at hT
  dsimp only at hT
  have HV1 := Lib.hid (fun W (G : Glob W) => mvals_any pa (by omega) W G)
  have HV2 := Lib.hid (fun W (G : Glob W) => mvals_any ra (by omega) W G)
  have HN := Lib.hid (fun W => lnat_any sl 4294967295 W (by omega) (by omega))
  have lp := Mc.valsO_len pa
  have lr := Mc.valsO_len ra
  have ln := Mc.natP_inR sl
  unfold Mc.natP at ln hT
  obtain ⟨⟨ps, a⟩, e6⟩ : ∃ x, Mc.valsO pa = x := ⟨_, rfl⟩
  obtain ⟨⟨rs, b⟩, e7⟩ : ∃ x, Mc.valsO ra = x := ⟨_, rfl⟩
  obtain ⟨⟨z, ze⟩, e8⟩ : ∃ x, Ltr.natF sl 4294967295 = x := ⟨_, rfl⟩
  rw [e6] at HV1 lp
  rw [e7] at HV2 lr
  rw [e8] at HN ln
  rw [e6, e7, e8] at hT
  dsimp only at HV1 HV2 HN hT lp lr ln
  have hp : ps.length ≤ 1000 := by omega
  have hr : rs.length ≤ 1000 := by omega
  have HT := Lib.hid hT.symm
  clear hT e1 e2 e3 e4 e6 e7 e8 h1 h2 h3 lp lr
  have HG := Lib.hid G
  clear G
  have HB0 := Lib.hid ((Below.refl w.heap.size w).alloc (Nat.le_refl _) (.cells #[.slice none 0 0, .slice none 0 0, .int .i64 0, .slice none 0 0] 39))
  unfold Mc.lFunc at HP
  unfold Mc.lSlots at HC1
  unfold Mc.lArrow at HC2
  go_enter Tryz.func48, Tryz.ntmps48
  go_upto_region 4 with (first
    | (go_at_call 88; refine (HP.out _).mono ?_; rintro e w1 ⟨rfl, rfl⟩)
    | (go_at_call 89; refine (HC1.out _ (HG.out.below HB0.out)).mono ?_; clear HC1; rintro e w1 ⟨rfl, hb⟩; have B1 := HB0.out.trans (hb.mono (by simp)); have V1 := (Var.new w #[.slice none 0 0, .slice none 0 0, .int .i64 0, .slice none 0 0] 39).below hb (by simp); clear hb)
    | (go_at_call 89; refine (HC2.out _ (HG.out.below B1)).mono ?_; rintro e w2 ⟨rfl, hb⟩; have B2 := B1.trans (hb.mono B1.size); have V2 := V1.below hb V1.lt; clear hb B1 V1))
  refine at_code (F := fun W => Hid (Var W w.heap.size #[.slice none 0 0, .slice none 0 0, .int .i64 0, .slice none 0 0] 39) ∧ Hid (Below w.heap.size w W)) ⟨Lib.hid V2, Lib.hid B2⟩ ?_
  clear V2 B2 HP HC2 HB0
  rintro w3 ⟨V3, B3⟩
  obtain ⟨⟨q0, q1, q2, q3⟩, z0, z1, z2, z3⟩ := cells4' V3.out
  have hlt := V3.out.lt
  rcases ok with _ | _
  · obtain rfl := HT.out
    clear HT HV1 HV2 HN
    go_wp2
    · skip
      have hp4 := put4 V3.out (.slice none 0 0) (.slice none 0 0) (.int .i64 0) (.slice none 0 0)
      refine bodyPost_ret (results_cell_row_tmp rfl _ _ w.heap.size _ _ (0, 0) _ rfl hp4.1 Tryz.underlying39 rfl (by kernel_rfl)) rfl ?_
      exact ⟨⟨none, 0, none, 0, rfl, RdT.nil_, RdT.nil_⟩, below_grown B3.out hp4.2 B3.out.size (Nat.le_refl _)⟩
  rcases is with _ | _
  · obtain rfl := HT.out
    clear HT HV1 HV2 HN
    go_wp2
    · skip
      have hp4 := put4 V3.out (.slice none 0 0) (.slice none 0 0) (.int .i64 0) (.slice none 0 0)
      refine bodyPost_ret (results_cell_row_tmp rfl _ _ w.heap.size _ _ (0, 0) _ rfl hp4.1 Tryz.underlying39 rfl (by kernel_rfl)) rfl ?_
      exact ⟨⟨none, 0, none, 0, rfl, RdT.nil_, RdT.nil_⟩, below_grown B3.out hp4.2 B3.out.size (Nat.le_refl _)⟩
  rcases has with _ | _
  · obtain rfl := HT.out
    clear HT HV1 HV2 HN
    go_wp2
    · skip
      have hp4 := put4 V3.out (.slice none 0 0) (.slice none 0 0) (.int .i64 0) (.slice none 0 0)
      refine bodyPost_ret (results_cell_row_tmp rfl _ _ w.heap.size _ _ (0, 0) _ rfl hp4.1 Tryz.underlying39 rfl (by kernel_rfl)) rfl ?_
      exact ⟨⟨none, 0, none, 0, rfl, RdT.nil_, RdT.nil_⟩, below_grown B3.out hp4.2 B3.out.size (Nat.le_refl _)⟩
  have HT2 : Hid (R = ((((ps, rs), z) : (List Int × List Int) × Int), ((a && b) && (ze == 0)) && (Mc.head ps rs z == s))) := Lib.hid HT.out
  clear HT q0 q1 q2 q3 z0 z1 z2 z3
  go_upto_region 10 with (first
    | (go_at_call 90; refine (HV1.out _ (HG.out.below B3.out)).mono ?_; clear HV1; rintro e w4 ⟨⟨A, c, rfl, r1⟩, hb⟩; have V4 := V3.out.below hb hlt; have B4 := B3.out.trans (hb.mono B3.out.size); have r1 := RdZ.mono (S' := fun g => w.heap.size + 1 ≤ g) r1 (fun g _ h => Nat.le_trans hlt h); clear hb)
    | (go_at_call 90; refine (HV2.out _ (HG.out.below B4)).mono ?_; rintro e w5 ⟨⟨B, d, rfl, r2⟩, hb⟩; have V5 := V4.below hb V4.lt; have B5 := B4.trans (hb.mono B4.size); have r3 := r1.on hb; have r2 := RdZ.mono (S' := fun g => w.heap.size + 1 ≤ g) r2 (fun g _ h => Nat.le_trans V4.lt h); clear hb)
    | (go_at_call 91; refine (HN.out _).mono ?_; rintro e w6 ⟨rfl, q, hq⟩; have hb : Below w5.heap.size w5 w6 := (by rw [hq]; exact below_drewN _ _); clear hq; have V6 := V5.below hb V5.lt; have B6 := B5.trans (hb.mono B5.size); have r4 := r3.on hb; have r5 := r2.on hb; clear hb; have V7 := V6.alloc (.cells #[.slice A ps.length c, .slice B rs.length d, .int .i64 z, .slice none 0 0] 39); have B7 := B6.alloc B6.size (.cells #[.slice A ps.length c, .slice B rs.length d, .int .i64 z, .slice none 0 0] 39); have hbx := (Below.refl w6.heap.size w6).alloc (Nat.le_refl _) (.cells #[.slice A ps.length c, .slice B rs.length d, .int .i64 z, .slice none 0 0] 39); have r6 := r4.on hbx; have r7 := r5.on hbx; have hl6 := V6.lt; clear hbx r4 r5 B6))
  refine at_code (F := fun W => Hid (Var W w.heap.size #[.slice none 0 0, .slice none 0 0, .int .i64 0, .slice none 0 0] 39) ∧ Hid (Below w.heap.size w W) ∧ Hid (RdZ W (fun g => w.heap.size + 1 ≤ g) A ps) ∧ Hid (RdZ W (fun g => w.heap.size + 1 ≤ g) B rs) ∧ Hid (Var W w6.heap.size #[.slice A ps.length c, .slice B rs.length d, .int .i64 z, .slice none 0 0] 39)) ⟨Lib.hid V7, Lib.hid B7, Lib.hid r6, Lib.hid r7, Lib.hid (Var.new _ _ _)⟩ ?_
  clear V7 B7 r6 r7 V6 V3 B3 hlt r1 V4 B4 HV2 V5 B5 r3 r2 HN
  obtain ⟨Kx, hKx⟩ : ∃ Kx, w6.heap.size = Kx := ⟨_, rfl⟩
  rw [hKx] at hl6
  simp only [hKx]
  clear hKx
  rintro W ⟨VR', BEL, R5, R6, hv'⟩
  have VR := VR'.out
  have l12 := hl6
  have hKx := hv'.out.lt
  have hKz := VR.lt
  obtain ⟨c0_, c1_, c2_, c3_⟩ := (cells4' hv'.out).1
  have HIns := Lib.hid (head_any ⟨ps, rs, z, []⟩ hp hr ln (fun g => w.heap.size + 1 ≤ g) A c B d none 0 (World.drew W) (HG.out.below (BEL.out.trans ((below_drewN W 1).mono BEL.out.size))) (R5.out.on (below_drewN W 1)) (R6.out.on (below_drewN W 1)))
  unfold mfV at HIns
  dsimp only [List.length_nil] at HIns
  have HR := HT2
  clear VR' hv' HT2
  rcases a with _ | _
  · have HR : Hid (R = ((((ps, rs), z) : (List Int × List Int) × Int), false)) := Lib.hid HR.out
    have SS : (fun W' => W'.cell? ⟨Kx, 0, none⟩ = some (.slice A ps.length c) ∧ W'.cell? ⟨Kx, 1, none⟩ = some (.slice B rs.length d) ∧ W'.cell? ⟨Kx, 2, none⟩ = some (.int .i64 z) ∧ W'.cell? ⟨Kx, 3, none⟩ = some (.slice none 0 0)) (World.drew W) := ⟨c0_, c1_, c2_, c3_⟩
    dsimp only at SS
    have SSc := SS
    obtain ⟨t0, t1, t2, t3⟩ := SSc
    have VD : (World.drew W).heap[w.heap.size]? = some (.cells #[.slice none 0 0, .slice none 0 0, .int .i64 0, .slice none 0 0] 39 (0, 0)) := VR
    refine wp_region_held_drew (S := (fun W' => W'.cell? ⟨Kx, 0, none⟩ = some (.slice A ps.length c) ∧ W'.cell? ⟨Kx, 1, none⟩ = some (.slice B rs.length d) ∧ W'.cell? ⟨Kx, 2, none⟩ = some (.int .i64 z) ∧ W'.cell? ⟨Kx, 3, none⟩ = some (.slice none 0 0))) (by kernel_rfl) ?_ (fun hHeld0 => ?_)
    · first | assumption | go_keep
    refine tj (i := 0) rfl ?_; (try simp only [zS, zN, zT, zC, zZ])
    refine tj (i := 1) rfl ?_; (try simp only [zS, zN, zT, zC, zZ])
    refine tj (i := 2) rfl ?_; (try simp only [zS, zN, zT, zC, zZ])
    refine tjN (i := 3) rfl ?_; (try simp only [zS, zN, zT, zC, zZ])
    refine tj (i := 4) rfl ?_; (try simp only [zS, zN, zT, zC, zZ])
    refine tj (i := 5) rfl ?_; (try simp only [zS, zN, zT, zC, zZ])
    refine tjN (i := 6) rfl ?_; (try simp only [zS, zN, zT, zC, zZ])
    refine tjN (i := 7) rfl ?_; (try simp only [zS, zN, zT, zC, zZ])
    refine tj (i := 8) rfl ?_; (try simp only [zS, zN, zT, zC, zZ])
    refine tj (i := 9) rfl ?_; (try simp only [zS, zN, zT, zC, zZ])
    refine tjN (i := 10) rfl ?_; (try simp only [zS, zN, zT, zC, zZ])
    refine tjN (i := 11) rfl ?_; (try simp only [zS, zN, zT, zC, zZ])
    refine tjN (i := 12) rfl ?_; (try simp only [zS, zN, zT, zC, zZ])
    refine tjN (i := 13) rfl ?_; (try simp only [zS, zN, zT, zC, zZ])
    refine tj (i := 14) rfl ?_; (try simp only [zS, zN, zT, zC, zZ])
    refine wpAnyH_ready (rs := [15]) (by kernel_rfl) (by simp) ?_
    refine AllReadyH.cons rfl (fun K hK => ?_) AllReadyH.nil
    (rw [if_pos (by rfl)]; refine wp_store_row 39 (.tmp 2) (.tmp 67) rfl w.heap.size #[.slice A ps.length c, .slice B rs.length d, .int .i64 z, .slice none 0 0] rfl rfl 39 #[.slice none 0 0, .slice none 0 0, .int .i64 0, .slice none 0 0] VD info_mfun rfl (by simp [Value.oneCell']) ?_; have gS := setRow_grown (World.drew W) w.heap.size #[.slice A ps.length c, .slice B rs.length d, .int .i64 z, .slice none 0 0]; have SS2 : (fun W' => W'.cell? ⟨Kx, 0, none⟩ = some (.slice A ps.length c) ∧ W'.cell? ⟨Kx, 1, none⟩ = some (.slice B rs.length d) ∧ W'.cell? ⟨Kx, 2, none⟩ = some (.int .i64 z) ∧ W'.cell? ⟨Kx, 3, none⟩ = some (.slice none 0 0)) ((World.drew W).setRow w.heap.size #[.slice A ps.length c, .slice B rs.length d, .int .i64 z, .slice none 0 0]) := ⟨gS.cell t0 (by simp; omega), gS.cell t1 (by simp; omega), gS.cell t2 (by simp; omega), gS.cell t3 (by simp; omega)⟩; dsimp only at SS2)
    (try dsimp only)
    refine hK.out _ _ ?_ (fun hHeld1 => ?_)
    · first | trivial | ((try dsimp only); first | assumption | trivial | go_keep)
    clear hK K hHeld0
    (try simp only [zS, zN, zT, zC, zZ])
    refine tj (i := 16) rfl ?_; (try simp only [zS, zN, zT, zC, zZ])
    refine wpAnyH_done (by kernel_rfl) ?_ _
    (try dsimp only)
    repeat (first | go_values | go_skip | go_guarded | go_step | go_upon)
    have fin := hFin (by omega) (by omega) BEL.out (below_drewN W 1) R5.out R6.out #[.slice A ps.length c, .slice B rs.length d, .int .i64 z, .slice none 0 0]
    refine bodyPost_ret (results_cell_row_tmp rfl _ _ w.heap.size _ #[.slice A ps.length c, .slice B rs.length d, .int .i64 z, .slice none 0 0] (0, 0) _ rfl (setRow_heap (World.drew W) w.heap.size #[.slice none 0 0, .slice none 0 0, .int .i64 0, .slice none 0 0] _ _ (0, 0) VR) Tryz.underlying39 rfl (by kernel_rfl)) rfl ?_
    obtain rfl := HR.out
    exact ⟨⟨A, c, B, d, rfl, fin.2.1, fin.2.2⟩, fin.1⟩
  rcases b with _ | _
  · have HR : Hid (R = ((((ps, rs), z) : (List Int × List Int) × Int), false)) := Lib.hid HR.out
    have SS : (fun W' => W'.cell? ⟨Kx, 0, none⟩ = some (.slice A ps.length c) ∧ W'.cell? ⟨Kx, 1, none⟩ = some (.slice B rs.length d) ∧ W'.cell? ⟨Kx, 2, none⟩ = some (.int .i64 z) ∧ W'.cell? ⟨Kx, 3, none⟩ = some (.slice none 0 0)) (World.drew W) := ⟨c0_, c1_, c2_, c3_⟩
    dsimp only at SS
    have SSc := SS
    obtain ⟨t0, t1, t2, t3⟩ := SSc
    have VD : (World.drew W).heap[w.heap.size]? = some (.cells #[.slice none 0 0, .slice none 0 0, .int .i64 0, .slice none 0 0] 39 (0, 0)) := VR
    refine wp_region_held_drew (S := (fun W' => W'.cell? ⟨Kx, 0, none⟩ = some (.slice A ps.length c) ∧ W'.cell? ⟨Kx, 1, none⟩ = some (.slice B rs.length d) ∧ W'.cell? ⟨Kx, 2, none⟩ = some (.int .i64 z) ∧ W'.cell? ⟨Kx, 3, none⟩ = some (.slice none 0 0))) (by kernel_rfl) ?_ (fun hHeld0 => ?_)
    · first | assumption | go_keep
    refine tj (i := 0) rfl ?_; (try simp only [zS, zN, zT, zC, zZ])
    refine tj (i := 1) rfl ?_; (try simp only [zS, zN, zT, zC, zZ])
    refine tj (i := 2) rfl ?_; (try simp only [zS, zN, zT, zC, zZ])
    refine tj (i := 3) rfl ?_; (try simp only [zS, zN, zT, zC, zZ])
    refine tj (i := 4) rfl ?_; (try simp only [zS, zN, zT, zC, zZ])
    refine tj (i := 5) rfl ?_; (try simp only [zS, zN, zT, zC, zZ])
    refine tjN (i := 6) rfl ?_; (try simp only [zS, zN, zT, zC, zZ])
    refine tjN (i := 7) rfl ?_; (try simp only [zS, zN, zT, zC, zZ])
    refine tj (i := 8) rfl ?_; (try simp only [zS, zN, zT, zC, zZ])
    refine tj (i := 9) rfl ?_; (try simp only [zS, zN, zT, zC, zZ])
    refine tjN (i := 10) rfl ?_; (try simp only [zS, zN, zT, zC, zZ])
    refine tjN (i := 11) rfl ?_; (try simp only [zS, zN, zT, zC, zZ])
    refine tjN (i := 12) rfl ?_; (try simp only [zS, zN, zT, zC, zZ])
    refine tjN (i := 13) rfl ?_; (try simp only [zS, zN, zT, zC, zZ])
    refine tj (i := 14) rfl ?_; (try simp only [zS, zN, zT, zC, zZ])
    refine wpAnyH_ready (rs := [15]) (by kernel_rfl) (by simp) ?_
    refine AllReadyH.cons rfl (fun K hK => ?_) AllReadyH.nil
    (rw [if_pos (by rfl)]; refine wp_store_row 39 (.tmp 2) (.tmp 67) rfl w.heap.size #[.slice A ps.length c, .slice B rs.length d, .int .i64 z, .slice none 0 0] rfl rfl 39 #[.slice none 0 0, .slice none 0 0, .int .i64 0, .slice none 0 0] VD info_mfun rfl (by simp [Value.oneCell']) ?_; have gS := setRow_grown (World.drew W) w.heap.size #[.slice A ps.length c, .slice B rs.length d, .int .i64 z, .slice none 0 0]; have SS2 : (fun W' => W'.cell? ⟨Kx, 0, none⟩ = some (.slice A ps.length c) ∧ W'.cell? ⟨Kx, 1, none⟩ = some (.slice B rs.length d) ∧ W'.cell? ⟨Kx, 2, none⟩ = some (.int .i64 z) ∧ W'.cell? ⟨Kx, 3, none⟩ = some (.slice none 0 0)) ((World.drew W).setRow w.heap.size #[.slice A ps.length c, .slice B rs.length d, .int .i64 z, .slice none 0 0]) := ⟨gS.cell t0 (by simp; omega), gS.cell t1 (by simp; omega), gS.cell t2 (by simp; omega), gS.cell t3 (by simp; omega)⟩; dsimp only at SS2)
    (try dsimp only)
    refine hK.out _ _ ?_ (fun hHeld1 => ?_)
    · first | trivial | ((try dsimp only); first | assumption | trivial | go_keep)
    clear hK K hHeld0
    (try simp only [zS, zN, zT, zC, zZ])
    refine tj (i := 16) rfl ?_; (try simp only [zS, zN, zT, zC, zZ])
    refine wpAnyH_done (by kernel_rfl) ?_ _
    (try dsimp only)
    repeat (first | go_values | go_skip | go_guarded | go_step | go_upon)
    have fin := hFin (by omega) (by omega) BEL.out (below_drewN W 1) R5.out R6.out #[.slice A ps.length c, .slice B rs.length d, .int .i64 z, .slice none 0 0]
    refine bodyPost_ret (results_cell_row_tmp rfl _ _ w.heap.size _ #[.slice A ps.length c, .slice B rs.length d, .int .i64 z, .slice none 0 0] (0, 0) _ rfl (setRow_heap (World.drew W) w.heap.size #[.slice none 0 0, .slice none 0 0, .int .i64 0, .slice none 0 0] _ _ (0, 0) VR) Tryz.underlying39 rfl (by kernel_rfl)) rfl ?_
    obtain rfl := HR.out
    exact ⟨⟨A, c, B, d, rfl, fin.2.1, fin.2.2⟩, fin.1⟩
  rcases hze : (ze == 0) with _ | _
  · have HR : Hid (R = ((((ps, rs), z) : (List Int × List Int) × Int), false)) := Lib.hid (by rw [HR.out, hze]; rfl)
    have SS : (fun W' => W'.cell? ⟨Kx, 0, none⟩ = some (.slice A ps.length c) ∧ W'.cell? ⟨Kx, 1, none⟩ = some (.slice B rs.length d) ∧ W'.cell? ⟨Kx, 2, none⟩ = some (.int .i64 z) ∧ W'.cell? ⟨Kx, 3, none⟩ = some (.slice none 0 0)) (World.drew W) := ⟨c0_, c1_, c2_, c3_⟩
    dsimp only at SS
    have SSc := SS
    obtain ⟨t0, t1, t2, t3⟩ := SSc
    have VD : (World.drew W).heap[w.heap.size]? = some (.cells #[.slice none 0 0, .slice none 0 0, .int .i64 0, .slice none 0 0] 39 (0, 0)) := VR
    refine wp_region_held_drew (S := (fun W' => W'.cell? ⟨Kx, 0, none⟩ = some (.slice A ps.length c) ∧ W'.cell? ⟨Kx, 1, none⟩ = some (.slice B rs.length d) ∧ W'.cell? ⟨Kx, 2, none⟩ = some (.int .i64 z) ∧ W'.cell? ⟨Kx, 3, none⟩ = some (.slice none 0 0))) (by kernel_rfl) ?_ (fun hHeld0 => ?_)
    · first | assumption | go_keep
    refine tj (i := 0) rfl ?_; (try simp only [zS, zN, zT, zC, zZ])
    refine tj (i := 1) rfl ?_; (try simp only [zS, zN, zT, zC, zZ])
    refine tj (i := 2) rfl ?_; (try simp only [zS, zN, zT, zC, zZ])
    refine tj (i := 3) rfl ?_; (try simp only [zS, zN, zT, zC, zZ])
    refine tj (i := 4) rfl ?_; (try simp only [zS, zN, zT, zC, zZ])
    refine tj (i := 5) rfl ?_; (try simp only [zS, zN, zT, zC, zZ])
    refine tj (i := 6) rfl ?_; (try simp only [zS, zN, zT, zC, zZ])
    refine tj (i := 7) rfl ?_; (try simp only [zS, zN, zT, zC, zZ])
    refine tj (i := 8) rfl ?_; (try simp only [zS, zN, zT, zC, zZ])
    refine tj (i := 9) rfl ?_; (try simp only [zS, zN, zT, zC, zZ])
    refine tjN (i := 10) rfl ?_; (try simp only [zS, zN, zT, zC, zZ])
    refine tjN (i := 11) rfl ?_; (try simp only [zS, zN, zT, zC, zZ])
    refine tjN (i := 12) rfl ?_; (try simp only [zS, zN, zT, zC, zZ])
    refine tjN (i := 13) rfl ?_; (try simp only [zS, zN, zT, zC, zZ])
    refine tj (i := 14) rfl ?_; (try simp only [zS, zN, zT, zC, zZ])
    refine wpAnyH_ready (rs := [15]) (by kernel_rfl) (by simp) ?_
    refine AllReadyH.cons rfl (fun K hK => ?_) AllReadyH.nil
    (rw [if_pos (by rfl)]; refine wp_store_row 39 (.tmp 2) (.tmp 67) rfl w.heap.size #[.slice A ps.length c, .slice B rs.length d, .int .i64 z, .slice none 0 0] rfl rfl 39 #[.slice none 0 0, .slice none 0 0, .int .i64 0, .slice none 0 0] VD info_mfun rfl (by simp [Value.oneCell']) ?_; have gS := setRow_grown (World.drew W) w.heap.size #[.slice A ps.length c, .slice B rs.length d, .int .i64 z, .slice none 0 0]; have SS2 : (fun W' => W'.cell? ⟨Kx, 0, none⟩ = some (.slice A ps.length c) ∧ W'.cell? ⟨Kx, 1, none⟩ = some (.slice B rs.length d) ∧ W'.cell? ⟨Kx, 2, none⟩ = some (.int .i64 z) ∧ W'.cell? ⟨Kx, 3, none⟩ = some (.slice none 0 0)) ((World.drew W).setRow w.heap.size #[.slice A ps.length c, .slice B rs.length d, .int .i64 z, .slice none 0 0]) := ⟨gS.cell t0 (by simp; omega), gS.cell t1 (by simp; omega), gS.cell t2 (by simp; omega), gS.cell t3 (by simp; omega)⟩; dsimp only at SS2)
    (try dsimp only)
    refine hK.out _ _ ?_ (fun hHeld1 => ?_)
    · first | trivial | ((try dsimp only); first | assumption | trivial | go_keep)
    clear hK K hHeld0
    (try simp only [zS, zN, zT, zC, zZ])
    refine tj (i := 16) rfl ?_; (try simp only [zS, zN, zT, zC, zZ])
    refine wpAnyH_done (by kernel_rfl) ?_ _
    (try dsimp only)
    repeat (first | go_values | go_skip | go_guarded | go_step | go_upon)
    have fin := hFin (by omega) (by omega) BEL.out (below_drewN W 1) R5.out R6.out #[.slice A ps.length c, .slice B rs.length d, .int .i64 z, .slice none 0 0]
    refine bodyPost_ret (results_cell_row_tmp rfl _ _ w.heap.size _ #[.slice A ps.length c, .slice B rs.length d, .int .i64 z, .slice none 0 0] (0, 0) _ rfl (setRow_heap (World.drew W) w.heap.size #[.slice none 0 0, .slice none 0 0, .int .i64 0, .slice none 0 0] _ _ (0, 0) VR) Tryz.underlying39 rfl (by kernel_rfl)) rfl ?_
    obtain rfl := HR.out
    exact ⟨⟨A, c, B, d, rfl, fin.2.1, fin.2.2⟩, fin.1⟩
  have HR : Hid (R = ((((ps, rs), z) : (List Int × List Int) × Int), (Mc.head ps rs z == s))) := Lib.hid (by rw [HR.out, hze]; rfl)
  by_cases he : Mc.head ps rs z = s
  · have HR : Hid (R = ((((ps, rs), z) : (List Int × List Int) × Int), true)) := Lib.hid (by rw [HR.out, he]; simp)
    rw [he] at HIns
    clear he
    have SS : (fun W' => W'.cell? ⟨Kx, 0, none⟩ = some (.slice A ps.length c) ∧ W'.cell? ⟨Kx, 1, none⟩ = some (.slice B rs.length d) ∧ W'.cell? ⟨Kx, 2, none⟩ = some (.int .i64 z) ∧ W'.cell? ⟨Kx, 3, none⟩ = some (.slice none 0 0)) (World.drew W) := ⟨c0_, c1_, c2_, c3_⟩
    dsimp only at SS
    have SSc := SS
    obtain ⟨t0, t1, t2, t3⟩ := SSc
    have VD : (World.drew W).heap[w.heap.size]? = some (.cells #[.slice none 0 0, .slice none 0 0, .int .i64 0, .slice none 0 0] 39 (0, 0)) := VR
    refine wp_region_held_drew (S := (fun W' => W'.cell? ⟨Kx, 0, none⟩ = some (.slice A ps.length c) ∧ W'.cell? ⟨Kx, 1, none⟩ = some (.slice B rs.length d) ∧ W'.cell? ⟨Kx, 2, none⟩ = some (.int .i64 z) ∧ W'.cell? ⟨Kx, 3, none⟩ = some (.slice none 0 0))) (by kernel_rfl) ?_ (fun hHeld0 => ?_)
    · first | assumption | go_keep
    refine tj (i := 0) rfl ?_; (try simp only [zS, zN, zT, zC, zZ])
    refine tj (i := 1) rfl ?_; (try simp only [zS, zN, zT, zC, zZ])
    refine tj (i := 2) rfl ?_; (try simp only [zS, zN, zT, zC, zZ])
    refine tj (i := 3) rfl ?_; (try simp only [zS, zN, zT, zC, zZ])
    refine tj (i := 4) rfl ?_; (try simp only [zS, zN, zT, zC, zZ])
    refine tj (i := 5) rfl ?_; (try simp only [zS, zN, zT, zC, zZ])
    refine tj (i := 6) rfl ?_; (try simp only [zS, zN, zT, zC, zZ])
    refine tj (i := 7) rfl ?_; (try simp only [zS, zN, zT, zC, zZ])
    refine tj (i := 8) rfl ?_; (try simp only [zS, zN, zT, zC, zZ])
    refine tj (i := 9) rfl ?_; (try simp only [zS, zN, zT, zC, zZ])
    refine tj (i := 10) rfl ?_; (try simp only [zS, zN, zT, zC, zZ])
    refine tj (i := 12) rfl ?_; (try simp only [zS, zN, zT, zC, zZ])
    refine wpAnyH_ready (rs := [11]) (by kernel_rfl) (by simp) ?_
    refine AllReadyH.cons rfl (fun K hK => ?_) AllReadyH.nil
    go_simp
    (refine HIns.out.mono ?_; rintro e w5 ⟨rfl, hb5⟩; have U5 := Lib.hid ((below_drewN W 1).trans (hb5.mono (Nat.le_refl _))); have V5 := var_keep VR U5.out; have kp := Below.keep U5.out (fun _ => True); have d0 := kp _ _ trivial c0_; have d1 := kp _ _ trivial c1_; have d2 := kp _ _ trivial c2_; have d3 := kp _ _ trivial c3_; clear kp hb5; have SS5 : (fun W' => W'.cell? ⟨Kx, 0, none⟩ = some (.slice A ps.length c) ∧ W'.cell? ⟨Kx, 1, none⟩ = some (.slice B rs.length d) ∧ W'.cell? ⟨Kx, 2, none⟩ = some (.int .i64 z) ∧ W'.cell? ⟨Kx, 3, none⟩ = some (.slice none 0 0)) w5 := ⟨d0, d1, d2, d3⟩; dsimp only at SS5)
    (try dsimp only)
    refine hK.out _ _ ?_ (fun hHeld1 => ?_)
    · first | trivial | ((try dsimp only); first | assumption | trivial | go_keep)
    clear hK K hHeld0
    (try simp only [zS, zN, zT, zC, zZ])
    refine tj (i := 13) rfl ?_; (try simp only [zS, zN, zT, zC, zZ])
    refine tj (i := 14) rfl ?_; (try simp only [zS, zN, zT, zC, zZ])
    refine wpAnyH_ready (rs := [15]) (by kernel_rfl) (by simp) ?_
    refine AllReadyH.cons rfl (fun K hK => ?_) AllReadyH.nil
    (rw [if_pos (by rfl)]; refine wp_store_row 39 (.tmp 2) (.tmp 67) rfl w.heap.size #[.slice A ps.length c, .slice B rs.length d, .int .i64 z, .slice none 0 0] rfl rfl 39 #[.slice none 0 0, .slice none 0 0, .int .i64 0, .slice none 0 0] V5 info_mfun rfl (by simp [Value.oneCell']) ?_; have gS := setRow_grown w5 w.heap.size #[.slice A ps.length c, .slice B rs.length d, .int .i64 z, .slice none 0 0]; have SS2 : (fun W' => W'.cell? ⟨Kx, 0, none⟩ = some (.slice A ps.length c) ∧ W'.cell? ⟨Kx, 1, none⟩ = some (.slice B rs.length d) ∧ W'.cell? ⟨Kx, 2, none⟩ = some (.int .i64 z) ∧ W'.cell? ⟨Kx, 3, none⟩ = some (.slice none 0 0)) (w5.setRow w.heap.size #[.slice A ps.length c, .slice B rs.length d, .int .i64 z, .slice none 0 0]) := ⟨gS.cell d0 (by simp; omega), gS.cell d1 (by simp; omega), gS.cell d2 (by simp; omega), gS.cell d3 (by simp; omega)⟩; dsimp only at SS2)
    (try dsimp only)
    refine hK.out _ _ ?_ (fun hHeld2 => ?_)
    · first | trivial | ((try dsimp only); first | assumption | trivial | go_keep)
    clear hK K hHeld1
    (try simp only [zS, zN, zT, zC, zZ])
    refine tj (i := 16) rfl ?_; (try simp only [zS, zN, zT, zC, zZ])
    refine wpAnyH_done (by kernel_rfl) ?_ _
    (try dsimp only)
    repeat (first | go_values | go_skip | go_guarded | go_step | go_upon)
    have fin := hFin (by omega) (by omega) BEL.out U5.out R5.out R6.out #[.slice A ps.length c, .slice B rs.length d, .int .i64 z, .slice none 0 0]
    refine bodyPost_ret (results_cell_row_tmp rfl _ _ w.heap.size _ #[.slice A ps.length c, .slice B rs.length d, .int .i64 z, .slice none 0 0] (0, 0) _ rfl (setRow_heap w5 w.heap.size #[.slice none 0 0, .slice none 0 0, .int .i64 0, .slice none 0 0] _ _ (0, 0) V5) Tryz.underlying39 rfl (by kernel_rfl)) rfl ?_
    obtain rfl := HR.out
    exact ⟨⟨A, c, B, d, rfl, fin.2.1, fin.2.2⟩, fin.1⟩
  · have hq2 : (Mc.head ps rs z == s) = false := by simpa using he
    have HR : Hid (R = ((((ps, rs), z) : (List Int × List Int) × Int), false)) := Lib.hid (by rw [HR.out, hq2])
    obtain ⟨J, hJ⟩ : ∃ x, Mc.head ps rs z = x := ⟨_, rfl⟩
    rw [hJ] at HIns he hq2
    have hq := beq_no he
    clear he hJ
    have SS : (fun W' => W'.cell? ⟨Kx, 0, none⟩ = some (.slice A ps.length c) ∧ W'.cell? ⟨Kx, 1, none⟩ = some (.slice B rs.length d) ∧ W'.cell? ⟨Kx, 2, none⟩ = some (.int .i64 z) ∧ W'.cell? ⟨Kx, 3, none⟩ = some (.slice none 0 0)) (World.drew W) := ⟨c0_, c1_, c2_, c3_⟩
    dsimp only at SS
    have SSc := SS
    obtain ⟨t0, t1, t2, t3⟩ := SSc
    have VD : (World.drew W).heap[w.heap.size]? = some (.cells #[.slice none 0 0, .slice none 0 0, .int .i64 0, .slice none 0 0] 39 (0, 0)) := VR
    refine wp_region_held_drew (S := (fun W' => W'.cell? ⟨Kx, 0, none⟩ = some (.slice A ps.length c) ∧ W'.cell? ⟨Kx, 1, none⟩ = some (.slice B rs.length d) ∧ W'.cell? ⟨Kx, 2, none⟩ = some (.int .i64 z) ∧ W'.cell? ⟨Kx, 3, none⟩ = some (.slice none 0 0))) (by kernel_rfl) ?_ (fun hHeld0 => ?_)
    · first | assumption | go_keep
    refine tj (i := 0) rfl ?_; (try simp only [zS, zN, zT, zC, zZ])
    refine tj (i := 1) rfl ?_; (try simp only [zS, zN, zT, zC, zZ])
    refine tj (i := 2) rfl ?_; (try simp only [zS, zN, zT, zC, zZ])
    refine tj (i := 3) rfl ?_; (try simp only [zS, zN, zT, zC, zZ])
    refine tj (i := 4) rfl ?_; (try simp only [zS, zN, zT, zC, zZ])
    refine tj (i := 5) rfl ?_; (try simp only [zS, zN, zT, zC, zZ])
    refine tj (i := 6) rfl ?_; (try simp only [zS, zN, zT, zC, zZ])
    refine tj (i := 7) rfl ?_; (try simp only [zS, zN, zT, zC, zZ])
    refine tj (i := 8) rfl ?_; (try simp only [zS, zN, zT, zC, zZ])
    refine tj (i := 9) rfl ?_; (try simp only [zS, zN, zT, zC, zZ])
    refine tj (i := 10) rfl ?_; (try simp only [zS, zN, zT, zC, zZ])
    refine tj (i := 12) rfl ?_; (try simp only [zS, zN, zT, zC, zZ])
    refine wpAnyH_ready (rs := [11]) (by kernel_rfl) (by simp) ?_
    refine AllReadyH.cons rfl (fun K hK => ?_) AllReadyH.nil
    go_simp
    (refine HIns.out.mono ?_; rintro e w5 ⟨rfl, hb5⟩; have U5 := Lib.hid ((below_drewN W 1).trans (hb5.mono (Nat.le_refl _))); have V5 := var_keep VR U5.out; have kp := Below.keep U5.out (fun _ => True); have d0 := kp _ _ trivial c0_; have d1 := kp _ _ trivial c1_; have d2 := kp _ _ trivial c2_; have d3 := kp _ _ trivial c3_; clear kp hb5; have SS5 : (fun W' => W'.cell? ⟨Kx, 0, none⟩ = some (.slice A ps.length c) ∧ W'.cell? ⟨Kx, 1, none⟩ = some (.slice B rs.length d) ∧ W'.cell? ⟨Kx, 2, none⟩ = some (.int .i64 z) ∧ W'.cell? ⟨Kx, 3, none⟩ = some (.slice none 0 0)) w5 := ⟨d0, d1, d2, d3⟩; dsimp only at SS5)
    (try dsimp only)
    refine hK.out _ _ ?_ (fun hHeld1 => ?_)
    · first | trivial | ((try dsimp only); first | assumption | trivial | go_keep)
    clear hK K hHeld0
    (try simp only [zS, zN, zT, zC, zZ])
    refine tj (i := 13) rfl ?_; (try simp only [zS, zN, zT, zC, zZ])
    refine tj (i := 14) rfl ?_; (try simp only [zS, zN, zT, zC, zZ])
    refine wpAnyH_ready (rs := [15]) (by kernel_rfl) (by simp) ?_
    refine AllReadyH.cons rfl (fun K hK => ?_) AllReadyH.nil
    (rw [if_pos (by rfl)]; refine wp_store_row 39 (.tmp 2) (.tmp 67) rfl w.heap.size #[.slice A ps.length c, .slice B rs.length d, .int .i64 z, .slice none 0 0] rfl rfl 39 #[.slice none 0 0, .slice none 0 0, .int .i64 0, .slice none 0 0] V5 info_mfun rfl (by simp [Value.oneCell']) ?_; have gS := setRow_grown w5 w.heap.size #[.slice A ps.length c, .slice B rs.length d, .int .i64 z, .slice none 0 0]; have SS2 : (fun W' => W'.cell? ⟨Kx, 0, none⟩ = some (.slice A ps.length c) ∧ W'.cell? ⟨Kx, 1, none⟩ = some (.slice B rs.length d) ∧ W'.cell? ⟨Kx, 2, none⟩ = some (.int .i64 z) ∧ W'.cell? ⟨Kx, 3, none⟩ = some (.slice none 0 0)) (w5.setRow w.heap.size #[.slice A ps.length c, .slice B rs.length d, .int .i64 z, .slice none 0 0]) := ⟨gS.cell d0 (by simp; omega), gS.cell d1 (by simp; omega), gS.cell d2 (by simp; omega), gS.cell d3 (by simp; omega)⟩; dsimp only at SS2)
    (try dsimp only)
    refine hK.out _ _ ?_ (fun hHeld2 => ?_)
    · first | trivial | ((try dsimp only); first | assumption | trivial | go_keep)
    clear hK K hHeld1
    (try simp only [zS, zN, zT, zC, zZ])
    refine tj (i := 16) rfl ?_; (try simp only [zS, zN, zT, zC, zZ])
    refine wpAnyH_done (by kernel_rfl) ?_ _
    (try dsimp only)
    repeat (first | go_values | go_skip | go_guarded | go_step | go_upon)
    have fin := hFin (by omega) (by omega) BEL.out U5.out R5.out R6.out #[.slice A ps.length c, .slice B rs.length d, .int .i64 z, .slice none 0 0]
    refine bodyPost_ret (results_cell_row_tmp rfl _ _ w.heap.size _ #[.slice A ps.length c, .slice B rs.length d, .int .i64 z, .slice none 0 0] (0, 0) _ rfl (setRow_heap w5 w.heap.size #[.slice none 0 0, .slice none 0 0, .int .i64 0, .slice none 0 0] _ _ (0, 0) V5) Tryz.underlying39 rfl (by kernel_rfl)) rfl ?_
    obtain rfl := HR.out
    exact ⟨⟨A, c, B, d, rfl, fin.2.1, fin.2.2⟩, fin.1⟩
end Go.Proofs.YtadnfekogmjieaaGreatDoor
set_option linter.unusedVariables false
set_option linter.unusedSimpArgs false
namespace Go.Proofs.YtadnfekogmjieaaGreatDoor
open Go.RowKit
open Mc (Pl Mi Mf)
theorem results_cell_2 {P : Program} {fn : Func} {p u v : Tmp} {ty : TypeId} (h : fn.results = #[.cell p ty, .tmp u, .tmp v]) (tmps : Array Value) (w : World) (g : Nat) (t : TypeId) (cs : Array Value) (fr : Nat × Nat) (d : TypeDesc)
    (hp : tmps.getD p undef = .pointer (some ⟨g, 0, none⟩)) (hg : w.heap[g]? = some (.cells cs t fr))
    (hu : P.underlying ty = some d) (hd : (match d with | .struct _ | .array _ _ => true | _ => false) = true) (hi : (P.info? ty).map (·.size) = some cs.size) :
    (results fn tmps).run P w = .ok (.tuple #[.agg cs, tmps.getD u undef, tmps.getD v undef]) w := by
  have hp' : tmps[p]?.getD undef = .pointer (some ⟨g, 0, none⟩) := by simpa using hp
  simp [results, h, hp', asAddr, run_loadVar_row w g t ty cs fr d hg hu hd hi]
abbrev MV := Mi × (Option Addr × Nat) × (Option Addr × Nat) × Option Addr × Nat
def encM (v : MV) : List Value := (miV v.1 v.2.1.1 v.2.1.2 v.2.2.1.1 v.2.2.1.2 v.2.2.2.1 v.2.2.2.2).toList
theorem encM_len (v : MV) : (encM v).length = 9 := rfl
theorem encM_one (v : MV) : ∀ u ∈ encM v, u.oneCell' = true := by simp [encM, miV, Value.oneCell']
def MvRd (S : Nat → Prop) (W : World) (v : MV) : Prop := MiRd S W v.1 v.2.1.1 v.2.2.1.1 v.2.2.2.1 ∧ v.1.d.length ≤ v.2.1.2
theorem MvRd.on {S : Nat → Prop} {W W' : World} {v : MV} (h : MvRd S W v) (hb : Below W.heap.size W W') : MvRd S W' v := ⟨h.1.on hb, h.2⟩
theorem MvRd.mono {S S' : Nat → Prop} {W : World} {v : MV} (h : MvRd S W v) (hS : ∀ g, g < W.heap.size → S g → S' g) : MvRd S' W v := ⟨h.1.mono hS, h.2⟩
theorem MvRd.keep {S : Nat → Prop} {W W' : World} {v : MV} (h : MvRd S W v) (hk : Keep S W W') (hs : W.heap.size ≤ W'.heap.size) : MvRd S W' v := ⟨h.1.keep hk hs, h.2⟩
structure PSt (w0 W : World) (K1 Kf : Nat) (S : Nat → Prop) (P : Option Addr) (c1 : Nat) (R : Option Addr) (c2 : Nat) (C : Option Addr) (c3 : Nat) (ps rs : List Int) (sl : Int) (M : List MV) : Prop where
  bel : Below w0.heap.size w0 W
  res : Var W K1 #[.slice none 0 0, .slice none 0 0, .int .i64 0, .slice none 0 0] 39
  fn : Var W Kf #[.slice P ps.length c1, .slice R rs.length c2, .int .i64 sl, .slice C M.length c3] 39
  rp : RdZ W S P ps
  rr : RdZ W S R rs
  own : W.ownsRow (Kf + 1) 61 9 (.slice C M.length c3) M.length (M.flatMap encM)
  rows : ∀ v ∈ M, MvRd S W v
  n1 : ¬ S K1
  n2 : ¬ S Kf
  n3 : ∀ j, (Value.slice C M.length c3).ownBlock = some j → ¬ S j
  sb : ∀ k, S k → w0.heap.size ≤ k ∧ k < W.heap.size
  lo : w0.heap.size ≤ K1
  l1 : K1 < Kf
def PEx (w0 W : World) (K1 Kf : Nat) (f : Mf) : Prop := ∃ S P c1 R c2 C c3 M, PSt w0 W K1 Kf S P c1 R c2 C c3 f.ps f.rs f.slots M ∧ M.map Prod.fst = f.code
section
variable {w0 W W' : World} {K1 Kf : Nat} {S : Nat → Prop} {P R C : Option Addr} {c1 c2 c3 : Nat} {ps rs : List Int} {sl : Int} {M : List MV}
theorem PSt.ltf (h : PSt w0 W K1 Kf S P c1 R c2 C c3 ps rs sl M) : Kf < W.heap.size := h.fn.lt
theorem PSt.below (h : PSt w0 W K1 Kf S P c1 R c2 C c3 ps rs sl M) (hb : Below W.heap.size W W') : PSt w0 W' K1 Kf S P c1 R c2 C c3 ps rs sl M :=
  ⟨h.bel.trans (hb.mono h.bel.size), var_keep h.res hb, var_keep h.fn hb, h.rp.on hb, h.rr.on hb, own_belowW h.own hb, fun v hv => (h.rows v hv).on hb, h.n1, h.n2, h.n3, fun k hk => ⟨(h.sb k hk).1, Nat.lt_of_lt_of_le (h.sb k hk).2 hb.size⟩, h.lo, h.l1⟩
theorem PSt.more (h : PSt w0 W K1 Kf S P c1 R c2 C c3 ps rs sl M) (hb : Below W.heap.size W W') : PSt w0 W' K1 Kf (fun k => S k ∨ (W.heap.size ≤ k ∧ k < W'.heap.size)) P c1 R c2 C c3 ps rs sl M := by
  have hf := h.ltf
  have hl := h.l1
  have hs := h.bel.size
  have h' := h.below hb
  refine ⟨h'.bel, h'.res, h'.fn, h'.rp.mono fun _ _ hg => .inl hg, h'.rr.mono fun _ _ hg => .inl hg, h'.own, fun v hv => (h'.rows v hv).mono fun _ _ hg => .inl hg, ?_, ?_, ?_, ?_, h.lo, h.l1⟩
  · rintro (hk | hk)
    · exact h.n1 hk
    · omega
  · rintro (hk | hk)
    · exact h.n2 hk
    · omega
  · rintro j hj (hk | hk)
    · exact h.n3 j hj hk
    · have := (h.own.lt j hj).2; omega
  · rintro k (hk | hk)
    · exact h'.sb k hk
    · omega
theorem PSt.app (h : PSt w0 W K1 Kf S P c1 R c2 C c3 ps rs sl M) {v : MV} (hv : MvRd S W v) {C' : Option Addr} {c' : Nat} (own : W'.ownsRow (Kf + 1) 61 9 (.slice C' (M.length + 1) c') (M.length + 1) ((M ++ [v]).flatMap encM)) (hg : W.grownBy W' (Value.slice C M.length c3).ownBlock) (hob : (Value.slice C' (M.length + 1) c').ownBlock = (Value.slice C M.length c3).ownBlock ∨ (Value.slice C' (M.length + 1) c').ownBlock = some W.heap.size) :
    PSt w0 (W'.setCell ⟨Kf, 3, none⟩ (.slice C' (M.length + 1) c')) K1 Kf S P c1 R c2 C' c' ps rs sl (M ++ [v]) := by
  have hl := h.l1
  have hlo := h.lo
  have hlen : (M ++ [v]).length = M.length + 1 := by simp
  have hge : ∀ j, (Value.slice C M.length c3).ownBlock = some j → Kf + 1 ≤ j := fun j hj => (h.own.lt j hj).1
  have hk : Keep S W W' := fun p u hs hc => hg.cell hc (fun e => h.n3 _ e.symm hs)
  have gs := grown_set W' Kf 3 (.slice C' (M.length + 1) c')
  have hk2 : Keep S W' (W'.setCell ⟨Kf, 3, none⟩ (.slice C' (M.length + 1) c')) := keep_grown gs h.n2
  have hkk := Keep.trans hk hk2
  have hsz : W.heap.size ≤ (W'.setCell ⟨Kf, 3, none⟩ (.slice C' (M.length + 1) c')).heap.size := Nat.le_trans hg.size gs.size
  have k1 : Below w0.heap.size w0 W' := h.bel.grown hg h.bel.size (fun j hj => by have := hge j hj; omega)
  have k2 := var_stay (var_grown h.res h.own (by decide) hg) gs (by omega)
  have k3 := (var_grown h.fn h.own (by decide) hg).set 3 (.slice C' (M.length + 1) c')
  refine ⟨k1.setCell (p := ⟨Kf, 3, none⟩) (by show w0.heap.size ≤ Kf; omega) _, k2, by rw [hlen]; simpa using k3, h.rp.keep hkk hsz, h.rr.keep hkk hsz, by rw [hlen]; exact own_stay own gs (by omega), ?_, h.n1, h.n2, ?_, fun k hk => ⟨(h.sb k hk).1, Nat.lt_of_lt_of_le (h.sb k hk).2 hsz⟩, h.lo, h.l1⟩
  · intro u hu
    rcases List.mem_append.1 hu with hu | hu
    · exact (h.rows u hu).keep hkk hsz
    · rw [List.mem_singleton.1 hu]; exact hv.keep hkk hsz
  · rw [hlen]
    intro j hj hs
    rcases hob with e | e
    · exact h.n3 j (e ▸ hj) hs
    · rw [e] at hj
      injection hj with hj
      have := (h.sb j hs).2
      omega
theorem PSt.rdm (h : PSt w0 W K1 Kf S P c1 R c2 C c3 ps rs sl M) : MfAt (fun g => S g ∨ Kf < g) W ⟨ps, rs, sl, M.map Prod.fst⟩ P R C := by
  refine ⟨h.rp.mono fun _ _ hg => .inl hg, h.rr.mono fun _ _ hg => .inl hg, fun hl => ?_⟩
  have hM : M ≠ [] := fun e => hl (by rw [e]; rfl)
  obtain ⟨g, o, e, hb, hc⟩ := own_rds encM_len (by omega) h.own hM
  refine ⟨g, o, e, .inr (by subst e; have := (h.own.lt g rfl).1; omega), hb, fun i hi => ?_⟩
  have hi2 : i < M.length := by simpa using hi
  have he : (M.map Prod.fst)[i]'hi = M[i].1 := by simp
  rw [he]
  exact ⟨M[i].2.1.1, M[i].2.1.2, M[i].2.2.1.1, M[i].2.2.1.2, M[i].2.2.2.1, M[i].2.2.2.2, fun j v hj => hc i hi2 j v (by unfold encM; rw [Array.getElem?_toList]; exact hj), (h.rows _ (List.getElem_mem hi2)).mono fun _ _ hg => .inl hg⟩
theorem PSt.fin (h : PSt w0 W K1 Kf S P c1 R c2 C c3 ps rs sl M) (hg : W.grownBy W' (some K1)) : MfAt (fun g => w0.heap.size ≤ g) W' ⟨ps, rs, sl, M.map Prod.fst⟩ P R C ∧ Below w0.heap.size w0 W' := by
  have hl := h.l1
  have hlo := h.lo
  have hn := h.n1
  refine ⟨(h.rdm.keep (keep_grown hg ?_) hg.size).mono ?_, below_grown h.bel hg h.bel.size h.lo⟩
  · rintro (hk | hk)
    · exact hn hk
    · omega
  · rintro k - (hk | hk)
    · exact (h.sb k hk).1
    · omega
end
theorem RdS.low {α : Type} {enc : α → List Value} {w w' : World} {B k : Nat} {A : Option Addr} {l : List α} (h : RdS w B A k enc l) (hk : ∀ b, b < B → b < w.heap.size → w'.heap[b]? = w.heap[b]?) : RdS w' B A k enc l := fun hl => by
  obtain ⟨g, o, e, hb, hc⟩ := h hl
  refine ⟨g, o, e, hb, fun i hi j v hj => ?_⟩
  have := hc i hi j v hj
  exact (World.cell?_of_block (hk g hb (World.block_lt_of_cell? w _ this))).trans this
theorem info_mi : ∃ z b, (Tryz.prog.info? 61).map (fun i => (i.zero, i.size, i.bytes)) = some (some z, 9, b) ∧ z.cells.size = 9 ∧ b ≤ 1000 := ⟨.agg #[.int .i64 0, .int .i64 0, .int .i64 0, .int .i64 0, .int .u64 0, .slice none 0 0, .slice none 0 0, .slice none 0 0, .int .i64 0], 120, by kernel_rfl, by kernel_rfl, by decide⟩
theorem one_mi (W : World) (x : Mi) (A : Option Addr) (c : Nat) (B : Option Addr) (d : Nat) (T : Option Addr) (e : Nat) : Reads (W.alloc (.cells (miV x A c B d T e) 61)) (W.alloc (.cells (miV x A c B d T e) 61)).heap.size 9 (some ⟨W.heap.size, 0, none⟩) 1 ([((x, (A, c), (B, d), T, e) : MV)].flatMap encM) :=
  block_reads (cs := miV x A c B d T e) rfl (heap_alloc_new W _)
def POut (N : Nat) (R : Mf × Int × Int) (e : Ending) (w' : World) : Prop :=
  ∃ P c1 Q c2 C c3, e = .returned (.tuple #[.agg (mfV R.1 P c1 Q c2 C c3), .int .i64 R.2.1, .int .i64 R.2.2]) ∧ MfAt (fun g => N ≤ g) w' R.1 P Q C
theorem mf0_at (N : Nat) (w : World) : MfAt (fun g => N ≤ g) w Mc.mf0 none none none := ⟨RdT.nil_, RdT.nil_, RdT.nil_⟩

set_option maxHeartbeats 16000000 in
set_option maxRecDepth 100000 in
theorem mparse_any (s : Mc.W) (hs : s.length ≤ 90000) (hh : ((Lib.split s [10]).headD []).length ≤ 4900) (w : World) (G : GlobM w) :
    Calls Tryz.prog 19 #[.string ⟨s.toArray⟩] w fun e w' => POut w.heap.size (Mc.parseO s) e w' ∧ Below w.heap.size w w' := by
  obtain ⟨zI, bI, hinfo, hzs, hbb⟩ := info_mi
  obtain ⟨i0, hi0, hz0, hz1, hz2⟩ := info_parts hinfo
  have HS := Lib.hid (fun W (G : Glob W) => split_any s [10] (by omega) (by simp) W G)
  have hLl := Mc.split_len s [10] (by simp)
  have hLw := Mc.split_words s [10] (by simp)
  have hLn := (Mc.join_split [10] (by simp) s.length s (Nat.le_refl _)).2
  obtain ⟨R, hR⟩ : ∃ x, Mc.parseO s = x := ⟨_, rfl⟩
  rw [hR]
  unfold Mc.parseO at hR
  obtain ⟨L, hL⟩ : ∃ x, Lib.split s [10] = x := ⟨_, rfl⟩
  rw [hL] at HS hLl hLw hLn hR hh
  clear hL
  obtain ⟨hd, Ls, rfl⟩ := List.exists_cons_of_ne_nil hLn
  rw [List.headD_cons] at hh hR
  rw [List.tail_cons] at hR
  have HH := Lib.hid (fun W (G : Glob W) => mheader_any hd (by omega) W G)
  obtain ⟨⟨⟨⟨ps, rs⟩, sl⟩, hb0⟩, e1⟩ : ∃ x, Mc.headerP hd = x := ⟨_, rfl⟩
  rw [e1] at HH hR
  dsimp only at hR
  have HI := Lib.hid (fun (i : Nat) (hi : i < Ls.length) W (G : GlobM W) => minstr_any Ls[i] (by have := hLw Ls[i] (by simp); omega) W G)
  have HR := Lib.hid hR.symm
  have HG := Lib.hid G
  simp only [List.length_cons] at hLl
  clear hR G hLn e1 hLw
  have HB0 := Lib.hid ((Below.refl w.heap.size w).alloc (Nat.le_refl _) (.cells #[.slice none 0 0, .slice none 0 0, .int .i64 0, .slice none 0 0] 39))
  go_enter Tryz.func19, Tryz.ntmps19
  go_upto_region 3 with (first
    | (go_at_call 47; refine (HS.out _ (HG.out.g.below HB0.out)).mono ?_; rintro e w1 ⟨⟨A0, rfl, hrd⟩, hb⟩; have v1 := (Var.new w #[.slice none 0 0, .slice none 0 0, .int .i64 0, .slice none 0 0] 39).below hb (by simp); have b1 := HB0.out.trans (hb.mono (by simp)); have hk1 : w.heap.size + 1 ≤ w1.heap.size := (by have := hb.size; simp at this; omega); obtain ⟨g, o, rfl, hg, h0⟩ := hrd.get (i := 0) (by simp); have f0 := h0 0 _ rfl; simp only [Nat.zero_mul, Nat.add_zero, List.getElem_cons_zero] at f0; simp only [List.length_cons]; clear h0 hb)
    | (go_at_call 48; refine (HH.out _ (HG.out.g.below b1)).mono ?_; rintro e w2 ⟨⟨A, c, B, d, rfl, r1, r2⟩, hb⟩; unfold hdV; dsimp only at r1 r2 ⊢))
  have b2 := b1.trans (hb.mono b1.size)
  have hkf : w1.heap.size ≤ w2.heap.size := hb.size
  have ha := (Below.refl w2.heap.size w2).alloc (Nat.le_refl _) (.cells #[.slice A ps.length c, .slice B rs.length d, .int .i64 sl, .slice none 0 0] 39)
  have hf0 : PSt w (w2.alloc (.cells #[.slice A ps.length c, .slice B rs.length d, .int .i64 sl, .slice none 0 0] 39)) w.heap.size w2.heap.size (fun k => w1.heap.size ≤ k ∧ k < w2.heap.size) A c B d none 0 ps rs sl [] :=
    ⟨b2.alloc b2.size _, var_keep (var_keep v1 hb) ha, Var.new _ _ _, (r1.mono fun k h1 h2 => ⟨h2, h1⟩).on ha, (r2.mono fun k h1 h2 => ⟨h2, h1⟩).on ha, World.ownsRow_nil _ _ _ _, by simp, by omega, by omega, fun j hj => (by cases hj), fun k hk => ⟨by omega, by have := hk.2; simp; omega⟩, Nat.le_refl _, by omega⟩
  have hl0 : RdS (w2.alloc (.cells #[.slice A ps.length c, .slice B rs.length d, .int .i64 sl, .slice none 0 0] 39)) w2.heap.size (some ⟨g, o, none⟩) 1 encS (hd :: Ls) := ((hrd.below hb).more hkf).below ha
  refine at_code (F := fun W => PSt w W w.heap.size w2.heap.size (fun k => w1.heap.size ≤ k ∧ k < w2.heap.size) A c B d none 0 ps rs sl [] ∧ RdS W w2.heap.size (some ⟨g, o, none⟩) 1 encS (hd :: Ls)) ⟨hf0, hl0⟩ ?_
  clear hf0 hl0 ha b2 r1 r2 hb b1 v1 hrd f0 hg HS HB0 HH
  obtain ⟨S, hS⟩ : ∃ S, (fun k => w1.heap.size ≤ k ∧ k < w2.heap.size) = S := ⟨_, rfl⟩
  rw [hS]
  obtain ⟨Kf, hKf⟩ : ∃ K, w2.heap.size = K := ⟨_, rfl⟩
  simp only [hKf]
  clear hS hKf hkf hk1
  rintro W ⟨HP, hrd⟩
  obtain ⟨⟨z0, z1, z2, z3⟩, y0, y1, y2, y3⟩ := cells4' HP.res
  have hltr := HP.res.lt
  rcases hb0 with _ | _
  · have HRR : Hid (R = (Mc.mf0, 1, 4)) := Lib.hid (by rw [HR.out, if_neg (by simp)])
    clear HR HI
    have HPH := Lib.hid HP
    clear HP
    go_wp2_with fail
    have hp4 := put4 HPH.out.res (.slice none 0 0) (.slice none 0 0) (.int .i64 0) (.slice none 0 0)
    refine bodyPost_ret (results_cell_2 rfl _ _ w.heap.size _ _ (0, 0) _ rfl hp4.1 Tryz.underlying39 rfl (by kernel_rfl)) rfl ?_
    obtain rfl := HRR.out
    exact ⟨⟨none, 0, none, 0, none, 0, rfl, mf0_at _ _⟩, below_grown HPH.out.bel hp4.2 HPH.out.bel.size (Nat.le_refl _)⟩
  rcases Ls with _ | ⟨l0, Lt⟩
  · have HRR : Hid (R = (Mc.mf0, 1, 4)) := Lib.hid (by rw [HR.out, if_neg (by simp)])
    clear HR HI
    have HPH := Lib.hid HP
    clear HP
    go_wp2_with fail
    have hp4 := put4 HPH.out.res (.slice none 0 0) (.slice none 0 0) (.int .i64 0) (.slice none 0 0)
    refine bodyPost_ret (results_cell_2 rfl _ _ w.heap.size _ _ (0, 0) _ rfl hp4.1 Tryz.underlying39 rfl (by kernel_rfl)) rfl ?_
    obtain rfl := HRR.out
    exact ⟨⟨none, 0, none, 0, none, 0, rfl, mf0_at _ _⟩, below_grown HPH.out.bel hp4.2 HPH.out.bel.size (Nat.le_refl _)⟩
  obtain ⟨Ls, hLs⟩ : ∃ Ls, l0 :: Lt = Ls := ⟨_, rfl⟩
  have hne : 1 ≤ Ls.length := by rw [← hLs]; simp
  rw [hLs] at HR hrd HI hLl
  simp only [hLs]
  clear hLs
  have HZ : Hid (R = Mc.runP 2 (Mc.mfH ((ps, rs), sl)) Ls) := Lib.hid (by rw [HR.out, if_pos ⟨rfl, by rw [List.length_cons]; omega⟩])
  have hnl : ¬ Ls = [] := fun e => by rw [e] at hne; simp at hne
  have hnl2 : ¬ Ls.length = 0 := by omega
  have hnl3 : ¬ (1 = Ls.length + 1) := by omega
  have hnl4 : ¬ (Ls.length + 1 = 1) := by omega
  have x1 : ¬ ((Ls.length : Int) + 1 = 1) := by omega
  have x2 : ((Ls.length : Int) + 1 == 1) = false := by rw [beq_eq_false_iff_ne]; omega
  have hrt : RdS W Kf (some ⟨g, o + 1, none⟩) 1 encS Ls := by
    obtain ⟨g', o', e', h'⟩ := hrd.from_ (i := 1) (by simp; omega)
    cases e'
    exact h'
  have HP0 : Hid (PEx w W w.heap.size Kf (Mc.mfH ((ps, rs), sl))) := Lib.hid ⟨S, A, c, B, d, none, 0, [], HP, rfl⟩
  clear HR hrd HP z0 z1 z2 z3 y0 y1 y2 y3 hltr
  go_wp2_with fail
  go_loopw [32] (fun iv wr => ∃ (i : Nat) (f : Mf), iv = .int .i64 (i : Int) ∧ i ≤ Ls.length ∧ Hid (PEx w wr w.heap.size Kf f) ∧ RdS wr Kf (some ⟨g, o + 1, none⟩) 1 encS Ls ∧ f.code.length = i ∧ Hid (R = Mc.runP (i + 2) f (Ls.drop i))) (fun iv _ => Ls.length - (intOf iv).toNat)
  case atStart => exact ⟨0, _, rfl, by omega, HP0, hrt, rfl, by rw [List.drop_zero]; exact HZ⟩
  case round =>
    clear HP0 hrt HZ
    obtain ⟨i, f, rfl, hi, HP1, hrt, hcl, HZ⟩ := hrel
    obtain ⟨S1, P1, a1, Q1, a2, C1, a3, M, HP, hM⟩ := HP1.out
    have hML : M.length = i := by rw [← hcl, ← hM]; simp
    obtain ⟨⟨z0, z1, z2, z3⟩, y0, y1, y2, y3⟩ := cells4' HP.res
    obtain ⟨⟨k0, k1, k2, k3⟩, j0, j1, j2, j3⟩ := cells4' HP.fn
    have hltr := HP.res.lt
    have hltf := HP.fn.lt
    have hl1 := HP.l1
    by_cases hia : i < Ls.length
    case neg =>
      obtain rfl : i = Ls.length := by omega
      have x3 : ¬ (Ls.length : Int) < (Ls.length : Int) := by omega
      have HRR : Hid (R = (Mc.mf0, 1, 4)) := Lib.hid (by rw [HZ.out, List.drop_length]; rfl)
      have HPH := Lib.hid HP
      clear HP HZ HI HP1 hrt
      go_wp2_with fail
      have hp4 := put4 HPH.out.res (.slice none 0 0) (.slice none 0 0) (.int .i64 0) (.slice none 0 0)
      refine bodyPost_ret (results_cell_2 rfl _ _ w.heap.size _ _ (0, 0) _ rfl hp4.1 Tryz.underlying39 rfl (by kernel_rfl)) rfl ?_
      obtain rfl := HRR.out
      exact ⟨⟨none, 0, none, 0, none, 0, rfl, mf0_at _ _⟩, below_grown HPH.out.bel hp4.2 HPH.out.bel.size (Nat.le_refl _)⟩
    obtain ⟨ga, oa, hga, hb1, e1⟩ := hrt.get hia
    cases hga
    have f0 := e1 0 _ rfl
    rw [Nat.add_zero, Nat.mul_one] at f0
    have HIi := Lib.hid (HI.out i hia)
    have hd2 : Ls.drop i = Ls[i] :: Ls.drop (i + 1) := List.drop_eq_getElem_cons hia
    have hz := HZ.out
    rw [hd2] at hz
    obtain ⟨u, hu⟩ : ∃ u, Ls[i] = u := ⟨_, rfl⟩
    rw [hu] at f0 HIi hz
    clear hu e1 hd2 HZ HI
    have x3 : (i : Int) < (Ls.length : Int) := by omega
    have x4 : (0 : Int) ≤ (i : Int) := by omega
    have hwi : IntKind.i64.wrap ((i : Int) + 2) = (i : Int) + 2 := by rw [IntKind.wrap_i64]; omega
    by_cases hlast : i + 1 = Ls.length
    · have hdr : Ls.drop (i + 1) = [] := by rw [hlast, List.drop_length]
      rw [hdr, Mc.runP] at hz
      have x5 : ((i : Int) + 2 == (Ls.length : Int) + 1) = true := by rw [beq_iff_eq]; omega
      have x5' : (i : Int) + 2 = (Ls.length : Int) + 1 := by omega
      by_cases hun : u = []
      · subst hun
        rw [if_pos rfl] at hz
        have HRR := Lib.hid hz
        have HPH := Lib.hid HP
        clear HP hz HIi hrt HP1
        go_wp2_with fail
        have hp4 := put4 HPH.out.res (.slice P1 f.ps.length a1) (.slice Q1 f.rs.length a2) (.int .i64 f.slots) (.slice C1 i a3)
        refine bodyPost_ret (results_cell_2 rfl _ _ w.heap.size _ _ (0, 0) _ rfl hp4.1 Tryz.underlying39 rfl (by kernel_rfl)) rfl ?_
        obtain rfl := HRR.out
        have hm := HPH.out.fin hp4.2
        rw [hM] at hm
        exact ⟨⟨P1, a1, Q1, a2, C1, a3, by unfold mfV; dsimp only; rw [hcl]; rfl, hm.1⟩, hm.2⟩
      · rw [if_neg hun] at hz
        have HRR : Hid (R = (Mc.mf0, ((Ls.length : Int) + 1), 4)) := Lib.hid (by rw [hz, ← x5']; simp)
        have hbe := beq_no hun
        have hq2 : (u == []) = false := by simpa using hun
        have hq3 : List.isEmpty u = false := by simpa using hun
        obtain ⟨⟨y, yb⟩, hy⟩ : ∃ y, Mc.insP u = y := ⟨_, rfl⟩
        rw [hy] at HIi
        clear hz hy
        go_upto_region 11 with (go_at_call 49; refine (HIi.out _ (HG.out.below HP.bel)).mono ?_; rintro e w3 ⟨⟨A4, c4, B4, d4, T4, e4, rfl, r1⟩, hb⟩; unfold miV; dsimp only; have HP3 := HP.below hb)
        have ha := (Below.refl w3.heap.size w3).alloc (Nat.le_refl _) (.cells #[.int .i64 y.kind, .int .i64 y.op, .int .i64 y.a, .int .i64 y.b, .int .u64 (y.n : Int), .slice A4 y.d.length c4, .slice B4 y.s.length d4, .slice T4 y.tos.length e4, .int .i64 y.trap] 61)
        refine at_code (F := fun W => Hid (PSt w W w.heap.size Kf S1 P1 a1 Q1 a2 C1 a3 f.ps f.rs f.slots M)) (Lib.hid (HP3.below ha)) ?_
        clear HP3 HP ha z0 z1 z2 z3 y0 y1 y2 y3 k0 k1 k2 k3 j0 j1 j2 j3 hltr hltf hrt r1 hb HP1 HIi f0
        intro W4 HPH
        obtain ⟨⟨z0, z1, z2, z3⟩, y0, y1, y2, y3⟩ := cells4' HPH.out.res
        have hltr := HPH.out.res.lt
        rcases yb with _ | _
        · skip
          go_wp2_with fail
          have hp4 := put4 HPH.out.res (.slice none 0 0) (.slice none 0 0) (.int .i64 0) (.slice none 0 0)
          refine bodyPost_ret (results_cell_2 rfl _ _ w.heap.size _ _ (0, 0) _ rfl hp4.1 Tryz.underlying39 rfl (by kernel_rfl)) rfl ?_
          obtain rfl := HRR.out
          exact ⟨⟨none, 0, none, 0, none, 0, rfl, mf0_at _ _⟩, below_grown HPH.out.bel hp4.2 HPH.out.bel.size (Nat.le_refl _)⟩
        · skip
          go_wp2_with fail
          have hp4 := put4 HPH.out.res (.slice none 0 0) (.slice none 0 0) (.int .i64 0) (.slice none 0 0)
          refine bodyPost_ret (results_cell_2 rfl _ _ w.heap.size _ _ (0, 0) _ rfl hp4.1 Tryz.underlying39 rfl (by kernel_rfl)) rfl ?_
          obtain rfl := HRR.out
          exact ⟨⟨none, 0, none, 0, none, 0, rfl, mf0_at _ _⟩, below_grown HPH.out.bel hp4.2 HPH.out.bel.size (Nat.le_refl _)⟩
    · have x5 : ((i : Int) + 2 == (Ls.length : Int) + 1) = false := by rw [beq_eq_false_iff_ne]; omega
      have x5' : ¬ (i : Int) + 2 = (Ls.length : Int) + 1 := by omega
      obtain ⟨u2, Lr, hLr⟩ : ∃ u2 Lr, Ls.drop (i + 1) = u2 :: Lr := List.exists_cons_of_ne_nil (by rw [Ne, List.drop_eq_nil_iff]; omega)
      rw [hLr, Mc.runP, ← hLr] at hz
      obtain ⟨⟨y, yb⟩, hy⟩ : ∃ y, Mc.insP u = y := ⟨_, rfl⟩
      rw [hy] at HIi hz
      dsimp only at hz
      clear hy hLr
      go_upto_region 11 with (go_at_call 49; refine (HIi.out _ (HG.out.below HP.bel)).mono ?_; rintro e w3 ⟨⟨A4, c4, B4, d4, T4, e4, rfl, r1⟩, hb⟩; unfold miV; dsimp only; have HP3 := HP.more hb)
      obtain ⟨S2, hS2⟩ : ∃ S2, (fun k => S1 k ∨ (wr.heap.size ≤ k ∧ k < w3.heap.size)) = S2 := ⟨_, rfl⟩
      have r2 : MvRd S2 w3 ((y, (A4, c4), (B4, d4), T4, e4) : MV) := by rw [← hS2]; exact MvRd.mono (v := ((y, (A4, c4), (B4, d4), T4, e4) : MV)) r1 fun k h1 h2 => .inr ⟨h2, h1⟩
      rw [hS2] at HP3
      have hrt3 : RdS w3 Kf (some ⟨g, o + 1, none⟩) 1 encS Ls := hrt.low fun b h1 h2 => hb.block b h2
      have ha := (Below.refl w3.heap.size w3).alloc (Nat.le_refl _) (.cells #[.int .i64 y.kind, .int .i64 y.op, .int .i64 y.a, .int .i64 y.b, .int .u64 (y.n : Int), .slice A4 y.d.length c4, .slice B4 y.s.length d4, .slice T4 y.tos.length e4, .int .i64 y.trap] 61)
      refine at_code (F := fun W => Hid (PSt w W w.heap.size Kf S2 P1 a1 Q1 a2 C1 a3 f.ps f.rs f.slots M) ∧ Hid (MvRd S2 W ((y, (A4, c4), (B4, d4), T4, e4) : MV)) ∧ Hid (RdS W Kf (some ⟨g, o + 1, none⟩) 1 encS Ls) ∧ Hid (Var W w3.heap.size #[.int .i64 y.kind, .int .i64 y.op, .int .i64 y.a, .int .i64 y.b, .int .u64 (y.n : Int), .slice A4 y.d.length c4, .slice B4 y.s.length d4, .slice T4 y.tos.length e4, .int .i64 y.trap] 61)) ⟨Lib.hid (HP3.below ha), Lib.hid (r2.on ha), Lib.hid (hrt3.low fun b h1 h2 => ha.block b h2), Lib.hid (Var.new _ _ _)⟩ ?_
      clear HP3 HP ha z0 z1 z2 z3 y0 y1 y2 y3 k0 k1 k2 k3 j0 j1 j2 j3 hltr hltf hrt r1 r2 hrt3 hb HP1 HIi f0 hS2
      obtain ⟨Kx, hKx⟩ : ∃ K, w3.heap.size = K := ⟨_, rfl⟩
      simp only [hKx]
      clear hKx
      rintro W4 ⟨HPH, HR2, HRT, HVX⟩
      rcases yb with _ | _
      · have HRR : Hid (R = (Mc.mf0, ((i : Int) + 2), 4)) := Lib.hid (by rw [hz]; simp)
        obtain ⟨⟨z0, z1, z2, z3⟩, y0, y1, y2, y3⟩ := cells4' HPH.out.res
        have hltr := HPH.out.res.lt
        clear hz
        go_wp2_with fail
        have hp4 := put4 HPH.out.res (.slice none 0 0) (.slice none 0 0) (.int .i64 0) (.slice none 0 0)
        refine bodyPost_ret (results_cell_2 rfl _ _ w.heap.size _ _ (0, 0) _ rfl hp4.1 Tryz.underlying39 rfl (by kernel_rfl)) rfl ?_
        obtain rfl := HRR.out
        exact ⟨⟨none, 0, none, 0, none, 0, rfl, mf0_at _ _⟩, below_grown HPH.out.bel hp4.2 HPH.out.bel.size (Nat.le_refl _)⟩
      rw [if_pos rfl] at hz
      have HZ2 := Lib.hid hz
      clear hz
      obtain ⟨v0, v1, v2, v3, v4, v5, v6, v7, v8⟩ := cells9 HVX.out
      have k3 : W4.cell? ⟨Kf, 3, none⟩ = some (.slice C1 i a3) := by rw [← hML]; exact HPH.out.fn.cells 3
      have j3 := HPH.out.fn.froz 3
      have hltf := HPH.out.fn.lt
      have hMle : M.length ≤ 1000000 := by omega
      go_wp2_with (at_builtin; have haa := (Below.refl W4.heap.size W4).alloc (Nat.le_refl _) (.cells #[.int .i64 y.kind, .int .i64 y.op, .int .i64 y.a, .int .i64 y.b, .int .u64 (y.n : Int), .slice A4 y.d.length c4, .slice B4 y.s.length d4, .slice T4 y.tos.length e4, .int .i64 y.trap] 61); have HPA := HPH.out.below haa; have HRA := MvRd.on HR2.out haa; have hown := HPA.own; rw [hML] at hown; refine app_rs2 Tryz.underlying37 hi0 hz0 hz1 hz2 hzs (by omega) encM_len encM_one _ rfl (.tmp 65) (.tmp 67) rfl (Kf + 1) (.slice C1 i a3) i M (by rfl) hown [((y, (A4, c4), (B4, d4), T4, e4) : MV)] 1 1 _ rfl (by rfl) (one_mi W4 y A4 c4 B4 d4 T4 e4) (by omega) hbb (by have := HPA.ltf; omega) ?_; intro A' c' w6 own6 hg6 hob6; rw [← hML] at own6 hg6 hob6; have POK := HPA.app HRA own6 hg6 hob6; have V6 := var_grown HPA.fn HPA.own (by decide) hg6; rw [hML] at POK; have n1 := V6.cells 3; have n2 := V6.froz 3; have n3 := V6.lt; have HRT6 := Lib.hid ((HRT.out.low fun b h1 h2 => haa.block b h2).low fun b h1 h2 => hg6.block b h2 (fun e => by have := (HPA.own.lt b e.symm).1; omega)))
      go_roundw
      case rel => exact ⟨i + 1, Mc.addI f y, by go_num, by omega, Lib.hid ⟨S2, P1, a1, Q1, a2, A', c', M ++ [((y, (A4, c4), (B4, d4), T4, e4) : MV)], POK, by simp [Mc.addI, hM]⟩, HRT6.out.low (fun b h1 h2 => (grown_set _ Kf 3 _).block b h2 (fun e => by injection e with e; omega)), by simp [Mc.addI, hcl], HZ2.out |> Lib.hid⟩
      case measure => simp [intOf]; omega
end Go.Proofs.YtadnfekogmjieaaGreatDoor
