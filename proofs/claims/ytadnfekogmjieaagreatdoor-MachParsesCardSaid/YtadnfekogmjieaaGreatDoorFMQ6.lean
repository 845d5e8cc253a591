/-
  Layer 51, the program: header. (Printed by gen_mq6.py.)
-/
import Derived.Test.YtadnfekogmjieaaGreatDoorFMQ3
import Derived.Test.YtadnfekogmjieaaGreatDoorFMS5
import Derived.Test.YtadnfekogmjieaaGreatDoorFTk
import Derived.Deep.Cut
import Derived.Deep.RegionHeld3
set_option linter.unusedVariables false
set_option linter.unusedSimpArgs false
namespace Go.Proofs.YtadnfekogmjieaaGreatDoor
open Go.RowKit
open Mc (Pl Mi Mf)
namespace Mc
theorem join_ge : ∀ (L : List W), L ≠ [] → (∀ x ∈ L, 3 ≤ x.length) → 5 * L.length ≤ (Lib.join L [44, 32]).length + 2
  | [], h, _ => absurd rfl h
  | [x], _, hx => by
    have := hx x (by simp)
    rw [Lib.join_one]; simp; omega
  | x :: y :: L, _, hx => by
    have h1 := hx x (by simp)
    have h2 := join_ge (y :: L) (by simp) (fun z hz => hx z (List.mem_cons_of_mem _ hz))
    rw [Lib.join_cons, joinTail_ne _ (by simp)]
    simp only [List.length_append, List.length_cons, List.length_nil] at h2 ⊢
    omega
theorem valsO_len (s : W) : 5 * (valsO s).1.length ≤ s.length + 2 := by
  unfold valsO
  split
  · simp
  split
  · simp
  obtain ⟨m, hm⟩ : ∃ m, (s.take (s.length - 1)).drop 1 = m := ⟨_, rfl⟩
  have hml : m.length ≤ s.length := by rw [← hm, List.length_drop, List.length_take]; omega
  rw [hm]
  obtain ⟨j1, j2⟩ := join_split [44, 32] (by simp) m.length m (Nat.le_refl _)
  unfold valsP
  split
  · rename_i h
    have := join_ge _ j2 (fun x hx => (find_val (List.all_eq_true.1 h x hx)).2)
    rw [j1] at this
    simp only [List.length_map] at this ⊢
    omega
  · simp
end Mc
def hdV (h : (List Int × List Int) × Int) (A : Option Addr) (c : Nat) (B : Option Addr) (d : Nat) : Array Value := #[.slice A h.1.1.length c, .slice B h.1.2.length d, .int .i64 h.2, .slice none 0 0]
/-- What header gives. -/
def HOut (N : Nat) (R : ((List Int × List Int) × Int) × Bool) (e : Ending) (w' : World) : Prop :=
  ∃ A c B d, e = .returned (.tuple #[.agg (hdV R.1 A c B d), .bool R.2]) ∧ RdZ w' (fun g => N ≤ g) A R.1.1.1 ∧ RdZ w' (fun g => N ≤ g) B R.1.1.2
theorem info_mfun : (Tryz.prog.info? 39).map (·.size) = some 4 := by kernel_rfl
theorem hFin {w W X : World} {Kx : Nat} {A B : Option Addr} {l m : List Int} (h1 : w.heap.size < Kx) (h2 : w.heap.size ≤ W.heap.size) (hB : Below w.heap.size w W) (hX : Below W.heap.size W X) (h5 : RdZ W (fun g => w.heap.size + 1 ≤ g) A l) (h6 : RdZ W (fun g => w.heap.size + 1 ≤ g) B m) (cs : Array Value) :
    Below w.heap.size w (X.setRow w.heap.size cs) ∧ RdZ (X.setRow w.heap.size cs) (fun g => w.heap.size ≤ g) A l ∧ RdZ (X.setRow w.heap.size cs) (fun g => w.heap.size ≤ g) B m := by
  have hg := setRow_grown X w.heap.size cs
  exact ⟨below_grown (hB.trans (hX.mono h2)) hg (Nat.le_trans h2 hX.size) (Nat.le_refl _), ((h5.on hX).keep (keep_grown hg (by omega)) hg.size).mono (fun g _ h => Nat.le_of_succ_le h), ((h6.on hX).keep (keep_grown hg (by omega)) hg.size).mono (fun g _ h => Nat.le_of_succ_le h)⟩

set_option maxHeartbeats 16000000 in
set_option maxRecDepth 100000 in
/-- mach.header. -/
theorem mheader_any (s : Mc.W) (hs : s.length ≤ 4900) (w : World) (G : Glob w) :
    Calls Tryz.prog 48 #[.string ⟨s.toArray⟩] w fun e w' => HOut w.heap.size (Mc.headerP s) e w' ∧ Below w.heap.size w w' := by
  have h1 := Mc.trimP_len s Mc.lFunc
  have h2 := Mc.cut_len (Lib.trimPrefix s Mc.lFunc) Mc.lSlots
  have h3 := Mc.cut_len (Lib.cut (Lib.trimPrefix s Mc.lFunc) Mc.lSlots).1 Mc.lArrow
  have HP := Lib.hid (fun W => cutPrefix_any s Mc.lFunc W)
  obtain ⟨R, hT⟩ : ∃ x, Mc.headerP s = x := ⟨_, rfl⟩
  rw [hT]
  unfold Mc.headerP Mc.cutB Mc.cutA at hT
  obtain ⟨b1, e1⟩ : ∃ x, Lib.trimPrefix s Mc.lFunc = x := ⟨_, rfl⟩
  obtain ⟨ok, e2⟩ : ∃ x, Lib.hasPrefix s Mc.lFunc = x := ⟨_, rfl⟩
  rw [e1, e2] at HP
  rw [e1] at h1 h2 h3
  have HC1 := Lib.hid (fun W (G : Glob W) => cut_any b1 Mc.lSlots (by omega) W G)
  obtain ⟨⟨tx, sl, is⟩, e3⟩ : ∃ x, Lib.cut b1 Mc.lSlots = x := ⟨_, rfl⟩
  rw [e3] at HC1 h2 h3
  dsimp only at HC1 h2 h3
  have HC2 := Lib.hid (fun W (G : Glob W) => cut_any tx Mc.lArrow (by omega) W G)
  obtain ⟨⟨pa, ra, has⟩, e4⟩ : ∃ x, Lib.cut tx Mc.lArrow = x := ⟨_, rfl⟩
  rw [e4] at HC2 h3
  rw [e1, e2, e3] at hT
  dsimp only at HC2 h3 hT
  rw [e4] at hT
  dsimp only at hT
  have HV1 := Lib.hid (fun W (G : Glob W) => mvals_any pa (by omega) W G)
  have HV2 := Lib.hid (fun W (G : Glob W) => mvals_any ra (by omega) W G)
  have HN := Lib.hid (fun W => lnat_any sl 4294967295 W (by omega) (by omega))
  have lp := Mc.valsO_len pa
  have lr := Mc.valsO_len ra
  have ln := Mc.natP_inR sl
  unfold Mc.natP at ln hT
  obtain ⟨⟨ps, a⟩, e6⟩ : ∃ x, Mc.valsO pa = x := ⟨_, rfl⟩
  obtain ⟨⟨rs, b⟩, e7⟩ : ∃ x, Mc.valsO ra = x := ⟨_, rfl⟩
  obtain ⟨⟨z, ze⟩, e8⟩ : ∃ x, Ltr.natF sl 4294967295 = x := ⟨_, rfl⟩
  rw [e6] at HV1 lp
  rw [e7] at HV2 lr
  rw [e8] at HN ln
  rw [e6, e7, e8] at hT
  dsimp only at HV1 HV2 HN hT lp lr ln
  have hp : ps.length ≤ 1000 := by omega
  have hr : rs.length ≤ 1000 := by omega
  have HT := Lib.hid hT.symm
  clear hT e1 e2 e3 e4 e6 e7 e8 h1 h2 h3 lp lr
  have HG := Lib.hid G
  clear G
  have HB0 := Lib.hid ((Below.refl w.heap.size w).alloc (Nat.le_refl _) (.cells #[.slice none 0 0, .slice none 0 0, .int .i64 0, .slice none 0 0] 39))
  unfold Mc.lFunc at HP
  unfold Mc.lSlots at HC1
  unfold Mc.lArrow at HC2
  go_enter Tryz.func48, Tryz.ntmps48
  go_upto_region 4 with (first
    | (go_at_call 88; refine (HP.out _).mono ?_; rintro e w1 ⟨rfl, rfl⟩)
    | (go_at_call 89; refine (HC1.out _ (HG.out.below HB0.out)).mono ?_; clear HC1; rintro e w1 ⟨rfl, hb⟩; have B1 := HB0.out.trans (hb.mono (by simp)); have V1 := (Var.new w #[.slice none 0 0, .slice none 0 0, .int .i64 0, .slice none 0 0] 39).below hb (by simp); clear hb)
    | (go_at_call 89; refine (HC2.out _ (HG.out.below B1)).mono ?_; rintro e w2 ⟨rfl, hb⟩; have B2 := B1.trans (hb.mono B1.size); have V2 := V1.below hb V1.lt; clear hb B1 V1))
  refine at_code (F := fun W => Hid (Var W w.heap.size #[.slice none 0 0, .slice none 0 0, .int .i64 0, .slice none 0 0] 39) ∧ Hid (Below w.heap.size w W)) ⟨Lib.hid V2, Lib.hid B2⟩ ?_
  clear V2 B2 HP HC2 HB0
  rintro w3 ⟨V3, B3⟩
  obtain ⟨⟨q0, q1, q2, q3⟩, z0, z1, z2, z3⟩ := cells4' V3.out
  have hlt := V3.out.lt
  rcases ok with _ | _
  · obtain rfl := HT.out
    clear HT HV1 HV2 HN
    go_wp2
    · skip
      have hp4 := put4 V3.out (.slice none 0 0) (.slice none 0 0) (.int .i64 0) (.slice none 0 0)
      refine bodyPost_ret (results_cell_row_tmp rfl _ _ w.heap.size _ _ (0, 0) _ rfl hp4.1 Tryz.underlying39 rfl (by kernel_rfl)) rfl ?_
      exact ⟨⟨none, 0, none, 0, rfl, RdT.nil_, RdT.nil_⟩, below_grown B3.out hp4.2 B3.out.size (Nat.le_refl _)⟩
  rcases is with _ | _
  · obtain rfl := HT.out
    clear HT HV1 HV2 HN
    go_wp2
    · skip
      have hp4 := put4 V3.out (.slice none 0 0) (.slice none 0 0) (.int .i64 0) (.slice none 0 0)
      refine bodyPost_ret (results_cell_row_tmp rfl _ _ w.heap.size _ _ (0, 0) _ rfl hp4.1 Tryz.underlying39 rfl (by kernel_rfl)) rfl ?_
      exact ⟨⟨none, 0, none, 0, rfl, RdT.nil_, RdT.nil_⟩, below_grown B3.out hp4.2 B3.out.size (Nat.le_refl _)⟩
  rcases has with _ | _
  · obtain rfl := HT.out
    clear HT HV1 HV2 HN
    go_wp2
    · skip
      have hp4 := put4 V3.out (.slice none 0 0) (.slice none 0 0) (.int .i64 0) (.slice none 0 0)
      refine bodyPost_ret (results_cell_row_tmp rfl _ _ w.heap.size _ _ (0, 0) _ rfl hp4.1 Tryz.underlying39 rfl (by kernel_rfl)) rfl ?_
      exact ⟨⟨none, 0, none, 0, rfl, RdT.nil_, RdT.nil_⟩, below_grown B3.out hp4.2 B3.out.size (Nat.le_refl _)⟩
  have HT2 : Hid (R = ((((ps, rs), z) : (List Int × List Int) × Int), ((a && b) && (ze == 0)) && (Mc.head ps rs z == s))) := Lib.hid HT.out
  clear HT q0 q1 q2 q3 z0 z1 z2 z3
  go_upto_region 10 with (first
    | (go_at_call 90; refine (HV1.out _ (HG.out.below B3.out)).mono ?_; clear HV1; rintro e w4 ⟨⟨A, c, rfl, r1⟩, hb⟩; have V4 := V3.out.below hb hlt; have B4 := B3.out.trans (hb.mono B3.out.size); have r1 := RdZ.mono (S' := fun g => w.heap.size + 1 ≤ g) r1 (fun g _ h => Nat.le_trans hlt h); clear hb)
    | (go_at_call 90; refine (HV2.out _ (HG.out.below B4)).mono ?_; rintro e w5 ⟨⟨B, d, rfl, r2⟩, hb⟩; have V5 := V4.below hb V4.lt; have B5 := B4.trans (hb.mono B4.size); have r3 := r1.on hb; have r2 := RdZ.mono (S' := fun g => w.heap.size + 1 ≤ g) r2 (fun g _ h => Nat.le_trans V4.lt h); clear hb)
    | (go_at_call 91; refine (HN.out _).mono ?_; rintro e w6 ⟨rfl, q, hq⟩; have hb : Below w5.heap.size w5 w6 := (by rw [hq]; exact below_drewN _ _); clear hq; have V6 := V5.below hb V5.lt; have B6 := B5.trans (hb.mono B5.size); have r4 := r3.on hb; have r5 := r2.on hb; clear hb; have V7 := V6.alloc (.cells #[.slice A ps.length c, .slice B rs.length d, .int .i64 z, .slice none 0 0] 39); have B7 := B6.alloc B6.size (.cells #[.slice A ps.length c, .slice B rs.length d, .int .i64 z, .slice none 0 0] 39); have hbx := (Below.refl w6.heap.size w6).alloc (Nat.le_refl _) (.cells #[.slice A ps.length c, .slice B rs.length d, .int .i64 z, .slice none 0 0] 39); have r6 := r4.on hbx; have r7 := r5.on hbx; have hl6 := V6.lt; clear hbx r4 r5 B6))
  refine at_code (F := fun W => Hid (Var W w.heap.size #[.slice none 0 0, .slice none 0 0, .int .i64 0, .slice none 0 0] 39) ∧ Hid (Below w.heap.size w W) ∧ Hid (RdZ W (fun g => w.heap.size + 1 ≤ g) A ps) ∧ Hid (RdZ W (fun g => w.heap.size + 1 ≤ g) B rs) ∧ Hid (Var W w6.heap.size #[.slice A ps.length c, .slice B rs.length d, .int .i64 z, .slice none 0 0] 39)) ⟨Lib.hid V7, Lib.hid B7, Lib.hid r6, Lib.hid r7, Lib.hid (Var.new _ _ _)⟩ ?_
  clear V7 B7 r6 r7 V6 V3 B3 hlt r1 V4 B4 HV2 V5 B5 r3 r2 HN
  obtain ⟨Kx, hKx⟩ : ∃ Kx, w6.heap.size = Kx := ⟨_, rfl⟩
  rw [hKx] at hl6
  simp only [hKx]
  clear hKx
  rintro W ⟨VR', BEL, R5, R6, hv'⟩
  have VR := VR'.out
  have l12 := hl6
  have hKx := hv'.out.lt
  have hKz := VR.lt
  obtain ⟨c0_, c1_, c2_, c3_⟩ := (cells4' hv'.out).1
  have HIns := Lib.hid (head_any ⟨ps, rs, z, []⟩ hp hr ln (fun g => w.heap.size + 1 ≤ g) A c B d none 0 (World.drew W) (HG.out.below (BEL.out.trans ((below_drewN W 1).mono BEL.out.size))) (R5.out.on (below_drewN W 1)) (R6.out.on (below_drewN W 1)))
  unfold mfV at HIns
  dsimp only [List.length_nil] at HIns
  have HR := HT2
  clear VR' hv' HT2
  rcases a with _ | _
  · have HR : Hid (R = ((((ps, rs), z) : (List Int × List Int) × Int), false)) := Lib.hid HR.out
    have SS : (fun W' => W'.cell? ⟨Kx, 0, none⟩ = some (.slice A ps.length c) ∧ W'.cell? ⟨Kx, 1, none⟩ = some (.slice B rs.length d) ∧ W'.cell? ⟨Kx, 2, none⟩ = some (.int .i64 z) ∧ W'.cell? ⟨Kx, 3, none⟩ = some (.slice none 0 0)) (World.drew W) := ⟨c0_, c1_, c2_, c3_⟩
    dsimp only at SS
    have SSc := SS
    obtain ⟨t0, t1, t2, t3⟩ := SSc
    have VD : (World.drew W).heap[w.heap.size]? = some (.cells #[.slice none 0 0, .slice none 0 0, .int .i64 0, .slice none 0 0] 39 (0, 0)) := VR
    refine wp_region_held_drew (S := (fun W' => W'.cell? ⟨Kx, 0, none⟩ = some (.slice A ps.length c) ∧ W'.cell? ⟨Kx, 1, none⟩ = some (.slice B rs.length d) ∧ W'.cell? ⟨Kx, 2, none⟩ = some (.int .i64 z) ∧ W'.cell? ⟨Kx, 3, none⟩ = some (.slice none 0 0))) (by kernel_rfl) ?_ (fun hHeld0 => ?_)
    · first | assumption | go_keep
    refine wpAnyH_take (i := 0) (oi := { dst := some 67, op := Go.Op.load 39 (Go.Operand.tmp 18), type := 39, pos := "text.go:211", after := #[], guard := none }) (v := ?v_1_0) rfl (by kernel_rfl) (by kernel_rfl) (by kernel_rfl) (fun _ _ _ h => h) (Or.inl ⟨by rfl, ?hy_1_0⟩) (by assumption) ?rest_1_0
    case hy_1_0 => (intro w hSw; (try dsimp only at hSw); go_simp; (try (with_reducible rfl)))
    (try simp only [Act.put, List.setIfInBounds_toArray, List.set_cons_succ, List.set_cons_zero])
    refine wpAnyH_take (i := 1) (oi := { dst := some 68, op := Go.Op.move (Go.Operand.tmp 13), type := 4, pos := "text.go:211", after := #[], guard := none }) (v := ?v_1_1) rfl (by kernel_rfl) (by kernel_rfl) (by kernel_rfl) (fun _ _ _ h => h) (Or.inl ⟨by rfl, ?hy_1_1⟩) (by assumption) ?rest_1_1
    case hy_1_1 => (intro w hSw; (try dsimp only at hSw); go_simp; (try (with_reducible rfl)))
    (try simp only [Act.put, List.setIfInBounds_toArray, List.set_cons_succ, List.set_cons_zero])
    refine wpAnyH_take (i := 2) (oi := { dst := some 69, op := Go.Op.move (Go.Operand.tmp 68), type := 4, pos := "text.go:211", after := #[{ on := 1, ground := Go.Ground.data }], guard := none }) (v := ?v_1_2) rfl (by kernel_rfl) (by kernel_rfl) (by kernel_rfl) (fun _ _ _ h => h) (Or.inl ⟨by rfl, ?hy_1_2⟩) (by assumption) ?rest_1_2
    case hy_1_2 => (intro w hSw; (try dsimp only at hSw); go_simp; (try (with_reducible rfl)))
    (try simp only [Act.put, List.setIfInBounds_toArray, List.set_cons_succ, List.set_cons_zero])
    refine wpAnyH_take (i := 3) (oi := { dst := some 70, op := Go.Op.move (Go.Operand.tmp 15), type := 4, pos := "text.go:211", after := #[{ on := 2, ground := Go.Ground.guard }], guard := some (2, true) }) (v := undef) rfl (by kernel_rfl) (by kernel_rfl) (by kernel_rfl) (fun _ _ _ h => h) (Or.inr ⟨by rfl, rfl⟩) (by assumption) ?rest_1_3
    (try simp only [Act.put, List.setIfInBounds_toArray, List.set_cons_succ, List.set_cons_zero])
    refine wpAnyH_take (i := 4) (oi := { dst := some 71, op := Go.Op.pick (Go.Operand.tmp 69) (Go.Operand.tmp 70) (Go.Operand.const (Go.Value.bool false)), type := 4, pos := "text.go:211", after := #[{ on := 2, ground := Go.Ground.data }, { on := 3, ground := Go.Ground.data }], guard := none }) (v := ?v_1_4) rfl (by kernel_rfl) (by kernel_rfl) (by kernel_rfl) (fun _ _ _ h => h) (Or.inl ⟨by rfl, ?hy_1_4⟩) (by assumption) ?rest_1_4
    case hy_1_4 => (intro w hSw; (try dsimp only at hSw); go_simp; (try (with_reducible rfl)))
    (try simp only [Act.put, List.setIfInBounds_toArray, List.set_cons_succ, List.set_cons_zero])
    refine wpAnyH_take (i := 5) (oi := { dst := some 72, op := Go.Op.move (Go.Operand.tmp 71), type := 4, pos := "text.go:211", after := #[{ on := 4, ground := Go.Ground.data }, { on := 2, ground := Go.Ground.chain }], guard := none }) (v := ?v_1_5) rfl (by kernel_rfl) (by kernel_rfl) (by kernel_rfl) (fun _ _ _ h => h) (Or.inl ⟨by rfl, ?hy_1_5⟩) (by assumption) ?rest_1_5
    case hy_1_5 => (intro w hSw; (try dsimp only at hSw); go_simp; (try (with_reducible rfl)))
    (try simp only [Act.put, List.setIfInBounds_toArray, List.set_cons_succ, List.set_cons_zero])
    refine wpAnyH_take (i := 6) (oi := { dst := some 73, op := Go.Op.move (Go.Operand.tmp 17), type := 43, pos := "text.go:211", after := #[{ on := 5, ground := Go.Ground.guard }], guard := some (5, true) }) (v := undef) rfl (by kernel_rfl) (by kernel_rfl) (by kernel_rfl) (fun _ _ _ h => h) (Or.inr ⟨by rfl, rfl⟩) (by assumption) ?rest_1_6
    (try simp only [Act.put, List.setIfInBounds_toArray, List.set_cons_succ, List.set_cons_zero])
    refine wpAnyH_take (i := 7) (oi := { dst := some 74, op := Go.Op.binOp Go.BinOp.eql 43 (Go.Operand.tmp 73) (Go.Operand.const (Go.Value.int Go.IntKind.i64 0)) 43, type := 4, pos := "text.go:211", after := #[{ on := 6, ground := Go.Ground.data }, { on := 5, ground := Go.Ground.guard }], guard := some (5, true) }) (v := undef) rfl (by kernel_rfl) (by kernel_rfl) (by kernel_rfl) (fun _ _ _ h => h) (Or.inr ⟨by rfl, rfl⟩) (by assumption) ?rest_1_7
    (try simp only [Act.put, List.setIfInBounds_toArray, List.set_cons_succ, List.set_cons_zero])
    refine wpAnyH_take (i := 8) (oi := { dst := some 75, op := Go.Op.pick (Go.Operand.tmp 72) (Go.Operand.tmp 74) (Go.Operand.const (Go.Value.bool false)), type := 4, pos := "text.go:211", after := #[{ on := 5, ground := Go.Ground.data }, { on := 7, ground := Go.Ground.data }], guard := none }) (v := ?v_1_8) rfl (by kernel_rfl) (by kernel_rfl) (by kernel_rfl) (fun _ _ _ h => h) (Or.inl ⟨by rfl, ?hy_1_8⟩) (by assumption) ?rest_1_8
    case hy_1_8 => (intro w hSw; (try dsimp only at hSw); go_simp; (try (with_reducible rfl)))
    (try simp only [Act.put, List.setIfInBounds_toArray, List.set_cons_succ, List.set_cons_zero])
    refine wpAnyH_take (i := 9) (oi := { dst := some 76, op := Go.Op.move (Go.Operand.tmp 75), type := 4, pos := "text.go:211", after := #[{ on := 8, ground := Go.Ground.data }, { on := 5, ground := Go.Ground.chain }], guard := none }) (v := ?v_1_9) rfl (by kernel_rfl) (by kernel_rfl) (by kernel_rfl) (fun _ _ _ h => h) (Or.inl ⟨by rfl, ?hy_1_9⟩) (by assumption) ?rest_1_9
    case hy_1_9 => (intro w hSw; (try dsimp only at hSw); go_simp; (try (with_reducible rfl)))
    (try simp only [Act.put, List.setIfInBounds_toArray, List.set_cons_succ, List.set_cons_zero])
    refine wpAnyH_take (i := 10) (oi := { dst := some 77, op := Go.Op.load 39 (Go.Operand.tmp 18), type := 39, pos := "text.go:211", after := #[{ on := 9, ground := Go.Ground.guard }], guard := some (9, true) }) (v := undef) rfl (by kernel_rfl) (by kernel_rfl) (by kernel_rfl) (fun _ _ _ h => h) (Or.inr ⟨by rfl, rfl⟩) (by assumption) ?rest_1_10
    (try simp only [Act.put, List.setIfInBounds_toArray, List.set_cons_succ, List.set_cons_zero])
    refine wpAnyH_take (i := 11) (oi := { dst := some 78, op := Go.Op.call { callee := Go.Callee.value (Go.Operand.func 31), args := #[Go.Operand.tmp 77], argTypes := #[39] }, type := 9, pos := "text.go:211", after := #[{ on := 10, ground := Go.Ground.data }, { on := 9, ground := Go.Ground.chain }, { on := 9, ground := Go.Ground.guard }], guard := some (9, true) }) (v := undef) rfl (by kernel_rfl) (by kernel_rfl) (by kernel_rfl) (fun _ _ _ h => h) (Or.inr ⟨by rfl, rfl⟩) (by assumption) ?rest_1_11
    (try simp only [Act.put, List.setIfInBounds_toArray, List.set_cons_succ, List.set_cons_zero])
    refine wpAnyH_take (i := 12) (oi := { dst := some 79, op := Go.Op.move (Go.Operand.tmp 0), type := 9, pos := "text.go:211", after := #[{ on := 9, ground := Go.Ground.guard }, { on := 15, ground := Go.Ground.gcOnly Go.Departure.lateStores }], guard := some (9, true) }) (v := undef) rfl (by kernel_rfl) (by kernel_rfl) (by kernel_rfl) (fun _ _ _ h => h) (Or.inr ⟨by rfl, rfl⟩) (by assumption) ?rest_1_12
    (try simp only [Act.put, List.setIfInBounds_toArray, List.set_cons_succ, List.set_cons_zero])
    refine wpAnyH_take (i := 13) (oi := { dst := some 80, op := Go.Op.binOp Go.BinOp.eql 9 (Go.Operand.tmp 78) (Go.Operand.tmp 79) 9, type := 4, pos := "text.go:211", after := #[{ on := 11, ground := Go.Ground.data }, { on := 12, ground := Go.Ground.data }, { on := 9, ground := Go.Ground.guard }, { on := 15, ground := Go.Ground.gcOnly Go.Departure.lateStores }], guard := some (9, true) }) (v := undef) rfl (by kernel_rfl) (by kernel_rfl) (by kernel_rfl) (fun _ _ _ h => h) (Or.inr ⟨by rfl, rfl⟩) (by assumption) ?rest_1_13
    (try simp only [Act.put, List.setIfInBounds_toArray, List.set_cons_succ, List.set_cons_zero])
    refine wpAnyH_take (i := 14) (oi := { dst := some 81, op := Go.Op.pick (Go.Operand.tmp 76) (Go.Operand.tmp 80) (Go.Operand.const (Go.Value.bool false)), type := 4, pos := "text.go:211", after := #[{ on := 9, ground := Go.Ground.data }, { on := 13, ground := Go.Ground.data }, { on := 15, ground := Go.Ground.gcOnly Go.Departure.lateStores }], guard := none }) (v := ?v_1_14) rfl (by kernel_rfl) (by kernel_rfl) (by kernel_rfl) (fun _ _ _ h => h) (Or.inl ⟨by rfl, ?hy_1_14⟩) (by assumption) ?rest_1_14
    case hy_1_14 => (intro w hSw; (try dsimp only at hSw); go_simp; (try (with_reducible rfl)))
    (try simp only [Act.put, List.setIfInBounds_toArray, List.set_cons_succ, List.set_cons_zero])
    refine wpAnyH_ready (rs := [15]) (by kernel_rfl) (by simp) ?_
    refine AllReadyH.cons (o := ⟨none, .store 39 (.tmp 2) (.tmp 67), 0, "text.go:211", #[⟨0, .data⟩, ⟨11, .chain⟩, ⟨0, .phase⟩, { on := 1, ground := .textOnly Go.Departure.lateStores }, { on := 2, ground := .textOnly Go.Departure.lateStores }, { on := 3, ground := .textOnly Go.Departure.lateStores }, { on := 4, ground := .textOnly Go.Departure.lateStores }, { on := 5, ground := .textOnly Go.Departure.lateStores }, { on := 6, ground := .textOnly Go.Departure.lateStores }, { on := 7, ground := .textOnly Go.Departure.lateStores }, { on := 8, ground := .textOnly Go.Departure.lateStores }, { on := 9, ground := .textOnly Go.Departure.lateStores }, { on := 10, ground := .textOnly Go.Departure.lateStores }, { on := 11, ground := .textOnly Go.Departure.lateStoresUnsure }, { on := 12, ground := .textOnly Go.Departure.lateStores }, { on := 13, ground := .textOnly Go.Departure.lateStores }, { on := 14, ground := .textOnly Go.Departure.lateStores }], none⟩) rfl (fun K hK => ?_) AllReadyH.nil
    (rw [if_pos (by rfl)]; refine wp_store_row 39 (.tmp 2) (.tmp 67) rfl w.heap.size #[.slice A ps.length c, .slice B rs.length d, .int .i64 z, .slice none 0 0] rfl rfl 39 #[.slice none 0 0, .slice none 0 0, .int .i64 0, .slice none 0 0] VD info_mfun rfl (by simp [Value.oneCell']) ?_; have gS := setRow_grown (World.drew W) w.heap.size #[.slice A ps.length c, .slice B rs.length d, .int .i64 z, .slice none 0 0]; have SS2 : (fun W' => W'.cell? ⟨Kx, 0, none⟩ = some (.slice A ps.length c) ∧ W'.cell? ⟨Kx, 1, none⟩ = some (.slice B rs.length d) ∧ W'.cell? ⟨Kx, 2, none⟩ = some (.int .i64 z) ∧ W'.cell? ⟨Kx, 3, none⟩ = some (.slice none 0 0)) ((World.drew W).setRow w.heap.size #[.slice A ps.length c, .slice B rs.length d, .int .i64 z, .slice none 0 0]) := ⟨gS.cell t0 (by simp; omega), gS.cell t1 (by simp; omega), gS.cell t2 (by simp; omega), gS.cell t3 (by simp; omega)⟩; dsimp only at SS2)
    (try dsimp only)
    refine hK.out _ _ ?_ (fun hHeld1 => ?_)
    · first | trivial | ((try dsimp only); first | assumption | trivial | go_keep)
    clear hK K hHeld0
    (try simp only [Act.put, List.setIfInBounds_toArray, List.set_cons_succ, List.set_cons_zero])
    refine wpAnyH_take (i := 16) (oi := { dst := some 3, op := Go.Op.assign (Go.Operand.tmp 81), type := 4, pos := "text.go:211", after := #[{ on := 14, ground := Go.Ground.data }, { on := 15, ground := Go.Ground.chain }, { on := 0, ground := Go.Ground.phase }, { on := 1, ground := Go.Ground.phase }, { on := 2, ground := Go.Ground.phase }, { on := 3, ground := Go.Ground.phase }, { on := 4, ground := Go.Ground.phase }, { on := 5, ground := Go.Ground.phase }, { on := 6, ground := Go.Ground.phase }, { on := 7, ground := Go.Ground.phase }, { on := 8, ground := Go.Ground.phase }, { on := 9, ground := Go.Ground.phase }, { on := 10, ground := Go.Ground.phase }, { on := 11, ground := Go.Ground.phase }, { on := 12, ground := Go.Ground.phase }, { on := 13, ground := Go.Ground.phase }, { on := 14, ground := Go.Ground.phase }, { on := 15, ground := Go.Ground.phase }], guard := none }) (v := ?v_1_16) rfl (by kernel_rfl) (by kernel_rfl) (by kernel_rfl) (fun _ _ _ h => h) (Or.inl ⟨by rfl, ?hy_1_16⟩) (by assumption) ?rest_1_16
    case hy_1_16 => (intro w hSw; (try dsimp only at hSw); go_simp; (try (with_reducible rfl)))
    (try simp only [Act.put, List.setIfInBounds_toArray, List.set_cons_succ, List.set_cons_zero])
    refine wpAnyH_done (by kernel_rfl) ?_ _
    (try dsimp only)
    repeat (first | go_values | go_skip | go_guarded | go_step | go_upon)
    have fin := hFin (by omega) (by omega) BEL.out (below_drewN W 1) R5.out R6.out #[.slice A ps.length c, .slice B rs.length d, .int .i64 z, .slice none 0 0]
    refine bodyPost_ret (results_cell_row_tmp rfl _ _ w.heap.size _ #[.slice A ps.length c, .slice B rs.length d, .int .i64 z, .slice none 0 0] (0, 0) _ rfl (setRow_heap (World.drew W) w.heap.size #[.slice none 0 0, .slice none 0 0, .int .i64 0, .slice none 0 0] _ _ (0, 0) VR) Tryz.underlying39 rfl (by kernel_rfl)) rfl ?_
    obtain rfl := HR.out
    exact ⟨⟨A, c, B, d, rfl, fin.2.1, fin.2.2⟩, fin.1⟩
  rcases b with _ | _
  · have HR : Hid (R = ((((ps, rs), z) : (List Int × List Int) × Int), false)) := Lib.hid HR.out
    have SS : (fun W' => W'.cell? ⟨Kx, 0, none⟩ = some (.slice A ps.length c) ∧ W'.cell? ⟨Kx, 1, none⟩ = some (.slice B rs.length d) ∧ W'.cell? ⟨Kx, 2, none⟩ = some (.int .i64 z) ∧ W'.cell? ⟨Kx, 3, none⟩ = some (.slice none 0 0)) (World.drew W) := ⟨c0_, c1_, c2_, c3_⟩
    dsimp only at SS
    have SSc := SS
    obtain ⟨t0, t1, t2, t3⟩ := SSc
    have VD : (World.drew W).heap[w.heap.size]? = some (.cells #[.slice none 0 0, .slice none 0 0, .int .i64 0, .slice none 0 0] 39 (0, 0)) := VR
    refine wp_region_held_drew (S := (fun W' => W'.cell? ⟨Kx, 0, none⟩ = some (.slice A ps.length c) ∧ W'.cell? ⟨Kx, 1, none⟩ = some (.slice B rs.length d) ∧ W'.cell? ⟨Kx, 2, none⟩ = some (.int .i64 z) ∧ W'.cell? ⟨Kx, 3, none⟩ = some (.slice none 0 0))) (by kernel_rfl) ?_ (fun hHeld0 => ?_)
    · first | assumption | go_keep
    refine wpAnyH_take (i := 0) (oi := { dst := some 67, op := Go.Op.load 39 (Go.Operand.tmp 18), type := 39, pos := "text.go:211", after := #[], guard := none }) (v := ?v_2_0) rfl (by kernel_rfl) (by kernel_rfl) (by kernel_rfl) (fun _ _ _ h => h) (Or.inl ⟨by rfl, ?hy_2_0⟩) (by assumption) ?rest_2_0
    case hy_2_0 => (intro w hSw; (try dsimp only at hSw); go_simp; (try (with_reducible rfl)))
    (try simp only [Act.put, List.setIfInBounds_toArray, List.set_cons_succ, List.set_cons_zero])
    refine wpAnyH_take (i := 1) (oi := { dst := some 68, op := Go.Op.move (Go.Operand.tmp 13), type := 4, pos := "text.go:211", after := #[], guard := none }) (v := ?v_2_1) rfl (by kernel_rfl) (by kernel_rfl) (by kernel_rfl) (fun _ _ _ h => h) (Or.inl ⟨by rfl, ?hy_2_1⟩) (by assumption) ?rest_2_1
    case hy_2_1 => (intro w hSw; (try dsimp only at hSw); go_simp; (try (with_reducible rfl)))
    (try simp only [Act.put, List.setIfInBounds_toArray, List.set_cons_succ, List.set_cons_zero])
    refine wpAnyH_take (i := 2) (oi := { dst := some 69, op := Go.Op.move (Go.Operand.tmp 68), type := 4, pos := "text.go:211", after := #[{ on := 1, ground := Go.Ground.data }], guard := none }) (v := ?v_2_2) rfl (by kernel_rfl) (by kernel_rfl) (by kernel_rfl) (fun _ _ _ h => h) (Or.inl ⟨by rfl, ?hy_2_2⟩) (by assumption) ?rest_2_2
    case hy_2_2 => (intro w hSw; (try dsimp only at hSw); go_simp; (try (with_reducible rfl)))
    (try simp only [Act.put, List.setIfInBounds_toArray, List.set_cons_succ, List.set_cons_zero])
    refine wpAnyH_take (i := 3) (oi := { dst := some 70, op := Go.Op.move (Go.Operand.tmp 15), type := 4, pos := "text.go:211", after := #[{ on := 2, ground := Go.Ground.guard }], guard := some (2, true) }) (v := ?v_2_3) rfl (by kernel_rfl) (by kernel_rfl) (by kernel_rfl) (fun _ _ _ h => h) (Or.inl ⟨by rfl, ?hy_2_3⟩) (by assumption) ?rest_2_3
    case hy_2_3 => (intro w hSw; (try dsimp only at hSw); go_simp; (try (with_reducible rfl)))
    (try simp only [Act.put, List.setIfInBounds_toArray, List.set_cons_succ, List.set_cons_zero])
    refine wpAnyH_take (i := 4) (oi := { dst := some 71, op := Go.Op.pick (Go.Operand.tmp 69) (Go.Operand.tmp 70) (Go.Operand.const (Go.Value.bool false)), type := 4, pos := "text.go:211", after := #[{ on := 2, ground := Go.Ground.data }, { on := 3, ground := Go.Ground.data }], guard := none }) (v := ?v_2_4) rfl (by kernel_rfl) (by kernel_rfl) (by kernel_rfl) (fun _ _ _ h => h) (Or.inl ⟨by rfl, ?hy_2_4⟩) (by assumption) ?rest_2_4
    case hy_2_4 => (intro w hSw; (try dsimp only at hSw); go_simp; (try (with_reducible rfl)))
    (try simp only [Act.put, List.setIfInBounds_toArray, List.set_cons_succ, List.set_cons_zero])
    refine wpAnyH_take (i := 5) (oi := { dst := some 72, op := Go.Op.move (Go.Operand.tmp 71), type := 4, pos := "text.go:211", after := #[{ on := 4, ground := Go.Ground.data }, { on := 2, ground := Go.Ground.chain }], guard := none }) (v := ?v_2_5) rfl (by kernel_rfl) (by kernel_rfl) (by kernel_rfl) (fun _ _ _ h => h) (Or.inl ⟨by rfl, ?hy_2_5⟩) (by assumption) ?rest_2_5
    case hy_2_5 => (intro w hSw; (try dsimp only at hSw); go_simp; (try (with_reducible rfl)))
    (try simp only [Act.put, List.setIfInBounds_toArray, List.set_cons_succ, List.set_cons_zero])
    refine wpAnyH_take (i := 6) (oi := { dst := some 73, op := Go.Op.move (Go.Operand.tmp 17), type := 43, pos := "text.go:211", after := #[{ on := 5, ground := Go.Ground.guard }], guard := some (5, true) }) (v := undef) rfl (by kernel_rfl) (by kernel_rfl) (by kernel_rfl) (fun _ _ _ h => h) (Or.inr ⟨by rfl, rfl⟩) (by assumption) ?rest_2_6
    (try simp only [Act.put, List.setIfInBounds_toArray, List.set_cons_succ, List.set_cons_zero])
    refine wpAnyH_take (i := 7) (oi := { dst := some 74, op := Go.Op.binOp Go.BinOp.eql 43 (Go.Operand.tmp 73) (Go.Operand.const (Go.Value.int Go.IntKind.i64 0)) 43, type := 4, pos := "text.go:211", after := #[{ on := 6, ground := Go.Ground.data }, { on := 5, ground := Go.Ground.guard }], guard := some (5, true) }) (v := undef) rfl (by kernel_rfl) (by kernel_rfl) (by kernel_rfl) (fun _ _ _ h => h) (Or.inr ⟨by rfl, rfl⟩) (by assumption) ?rest_2_7
    (try simp only [Act.put, List.setIfInBounds_toArray, List.set_cons_succ, List.set_cons_zero])
    refine wpAnyH_take (i := 8) (oi := { dst := some 75, op := Go.Op.pick (Go.Operand.tmp 72) (Go.Operand.tmp 74) (Go.Operand.const (Go.Value.bool false)), type := 4, pos := "text.go:211", after := #[{ on := 5, ground := Go.Ground.data }, { on := 7, ground := Go.Ground.data }], guard := none }) (v := ?v_2_8) rfl (by kernel_rfl) (by kernel_rfl) (by kernel_rfl) (fun _ _ _ h => h) (Or.inl ⟨by rfl, ?hy_2_8⟩) (by assumption) ?rest_2_8
    case hy_2_8 => (intro w hSw; (try dsimp only at hSw); go_simp; (try (with_reducible rfl)))
    (try simp only [Act.put, List.setIfInBounds_toArray, List.set_cons_succ, List.set_cons_zero])
    refine wpAnyH_take (i := 9) (oi := { dst := some 76, op := Go.Op.move (Go.Operand.tmp 75), type := 4, pos := "text.go:211", after := #[{ on := 8, ground := Go.Ground.data }, { on := 5, ground := Go.Ground.chain }], guard := none }) (v := ?v_2_9) rfl (by kernel_rfl) (by kernel_rfl) (by kernel_rfl) (fun _ _ _ h => h) (Or.inl ⟨by rfl, ?hy_2_9⟩) (by assumption) ?rest_2_9
    case hy_2_9 => (intro w hSw; (try dsimp only at hSw); go_simp; (try (with_reducible rfl)))
    (try simp only [Act.put, List.setIfInBounds_toArray, List.set_cons_succ, List.set_cons_zero])
    refine wpAnyH_take (i := 10) (oi := { dst := some 77, op := Go.Op.load 39 (Go.Operand.tmp 18), type := 39, pos := "text.go:211", after := #[{ on := 9, ground := Go.Ground.guard }], guard := some (9, true) }) (v := undef) rfl (by kernel_rfl) (by kernel_rfl) (by kernel_rfl) (fun _ _ _ h => h) (Or.inr ⟨by rfl, rfl⟩) (by assumption) ?rest_2_10
    (try simp only [Act.put, List.setIfInBounds_toArray, List.set_cons_succ, List.set_cons_zero])
    refine wpAnyH_take (i := 11) (oi := { dst := some 78, op := Go.Op.call { callee := Go.Callee.value (Go.Operand.func 31), args := #[Go.Operand.tmp 77], argTypes := #[39] }, type := 9, pos := "text.go:211", after := #[{ on := 10, ground := Go.Ground.data }, { on := 9, ground := Go.Ground.chain }, { on := 9, ground := Go.Ground.guard }], guard := some (9, true) }) (v := undef) rfl (by kernel_rfl) (by kernel_rfl) (by kernel_rfl) (fun _ _ _ h => h) (Or.inr ⟨by rfl, rfl⟩) (by assumption) ?rest_2_11
    (try simp only [Act.put, List.setIfInBounds_toArray, List.set_cons_succ, List.set_cons_zero])
    refine wpAnyH_take (i := 12) (oi := { dst := some 79, op := Go.Op.move (Go.Operand.tmp 0), type := 9, pos := "text.go:211", after := #[{ on := 9, ground := Go.Ground.guard }, { on := 15, ground := Go.Ground.gcOnly Go.Departure.lateStores }], guard := some (9, true) }) (v := undef) rfl (by kernel_rfl) (by kernel_rfl) (by kernel_rfl) (fun _ _ _ h => h) (Or.inr ⟨by rfl, rfl⟩) (by assumption) ?rest_2_12
    (try simp only [Act.put, List.setIfInBounds_toArray, List.set_cons_succ, List.set_cons_zero])
    refine wpAnyH_take (i := 13) (oi := { dst := some 80, op := Go.Op.binOp Go.BinOp.eql 9 (Go.Operand.tmp 78) (Go.Operand.tmp 79) 9, type := 4, pos := "text.go:211", after := #[{ on := 11, ground := Go.Ground.data }, { on := 12, ground := Go.Ground.data }, { on := 9, ground := Go.Ground.guard }, { on := 15, ground := Go.Ground.gcOnly Go.Departure.lateStores }], guard := some (9, true) }) (v := undef) rfl (by kernel_rfl) (by kernel_rfl) (by kernel_rfl) (fun _ _ _ h => h) (Or.inr ⟨by rfl, rfl⟩) (by assumption) ?rest_2_13
    (try simp only [Act.put, List.setIfInBounds_toArray, List.set_cons_succ, List.set_cons_zero])
    refine wpAnyH_take (i := 14) (oi := { dst := some 81, op := Go.Op.pick (Go.Operand.tmp 76) (Go.Operand.tmp 80) (Go.Operand.const (Go.Value.bool false)), type := 4, pos := "text.go:211", after := #[{ on := 9, ground := Go.Ground.data }, { on := 13, ground := Go.Ground.data }, { on := 15, ground := Go.Ground.gcOnly Go.Departure.lateStores }], guard := none }) (v := ?v_2_14) rfl (by kernel_rfl) (by kernel_rfl) (by kernel_rfl) (fun _ _ _ h => h) (Or.inl ⟨by rfl, ?hy_2_14⟩) (by assumption) ?rest_2_14
    case hy_2_14 => (intro w hSw; (try dsimp only at hSw); go_simp; (try (with_reducible rfl)))
    (try simp only [Act.put, List.setIfInBounds_toArray, List.set_cons_succ, List.set_cons_zero])
    refine wpAnyH_ready (rs := [15]) (by kernel_rfl) (by simp) ?_
    refine AllReadyH.cons (o := ⟨none, .store 39 (.tmp 2) (.tmp 67), 0, "text.go:211", #[⟨0, .data⟩, ⟨11, .chain⟩, ⟨0, .phase⟩, { on := 1, ground := .textOnly Go.Departure.lateStores }, { on := 2, ground := .textOnly Go.Departure.lateStores }, { on := 3, ground := .textOnly Go.Departure.lateStores }, { on := 4, ground := .textOnly Go.Departure.lateStores }, { on := 5, ground := .textOnly Go.Departure.lateStores }, { on := 6, ground := .textOnly Go.Departure.lateStores }, { on := 7, ground := .textOnly Go.Departure.lateStores }, { on := 8, ground := .textOnly Go.Departure.lateStores }, { on := 9, ground := .textOnly Go.Departure.lateStores }, { on := 10, ground := .textOnly Go.Departure.lateStores }, { on := 11, ground := .textOnly Go.Departure.lateStoresUnsure }, { on := 12, ground := .textOnly Go.Departure.lateStores }, { on := 13, ground := .textOnly Go.Departure.lateStores }, { on := 14, ground := .textOnly Go.Departure.lateStores }], none⟩) rfl (fun K hK => ?_) AllReadyH.nil
    (rw [if_pos (by rfl)]; refine wp_store_row 39 (.tmp 2) (.tmp 67) rfl w.heap.size #[.slice A ps.length c, .slice B rs.length d, .int .i64 z, .slice none 0 0] rfl rfl 39 #[.slice none 0 0, .slice none 0 0, .int .i64 0, .slice none 0 0] VD info_mfun rfl (by simp [Value.oneCell']) ?_; have gS := setRow_grown (World.drew W) w.heap.size #[.slice A ps.length c, .slice B rs.length d, .int .i64 z, .slice none 0 0]; have SS2 : (fun W' => W'.cell? ⟨Kx, 0, none⟩ = some (.slice A ps.length c) ∧ W'.cell? ⟨Kx, 1, none⟩ = some (.slice B rs.length d) ∧ W'.cell? ⟨Kx, 2, none⟩ = some (.int .i64 z) ∧ W'.cell? ⟨Kx, 3, none⟩ = some (.slice none 0 0)) ((World.drew W).setRow w.heap.size #[.slice A ps.length c, .slice B rs.length d, .int .i64 z, .slice none 0 0]) := ⟨gS.cell t0 (by simp; omega), gS.cell t1 (by simp; omega), gS.cell t2 (by simp; omega), gS.cell t3 (by simp; omega)⟩; dsimp only at SS2)
    (try dsimp only)
    refine hK.out _ _ ?_ (fun hHeld1 => ?_)
    · first | trivial | ((try dsimp only); first | assumption | trivial | go_keep)
    clear hK K hHeld0
    (try simp only [Act.put, List.setIfInBounds_toArray, List.set_cons_succ, List.set_cons_zero])
    refine wpAnyH_take (i := 16) (oi := { dst := some 3, op := Go.Op.assign (Go.Operand.tmp 81), type := 4, pos := "text.go:211", after := #[{ on := 14, ground := Go.Ground.data }, { on := 15, ground := Go.Ground.chain }, { on := 0, ground := Go.Ground.phase }, { on := 1, ground := Go.Ground.phase }, { on := 2, ground := Go.Ground.phase }, { on := 3, ground := Go.Ground.phase }, { on := 4, ground := Go.Ground.phase }, { on := 5, ground := Go.Ground.phase }, { on := 6, ground := Go.Ground.phase }, { on := 7, ground := Go.Ground.phase }, { on := 8, ground := Go.Ground.phase }, { on := 9, ground := Go.Ground.phase }, { on := 10, ground := Go.Ground.phase }, { on := 11, ground := Go.Ground.phase }, { on := 12, ground := Go.Ground.phase }, { on := 13, ground := Go.Ground.phase }, { on := 14, ground := Go.Ground.phase }, { on := 15, ground := Go.Ground.phase }], guard := none }) (v := ?v_2_16) rfl (by kernel_rfl) (by kernel_rfl) (by kernel_rfl) (fun _ _ _ h => h) (Or.inl ⟨by rfl, ?hy_2_16⟩) (by assumption) ?rest_2_16
    case hy_2_16 => (intro w hSw; (try dsimp only at hSw); go_simp; (try (with_reducible rfl)))
    (try simp only [Act.put, List.setIfInBounds_toArray, List.set_cons_succ, List.set_cons_zero])
    refine wpAnyH_done (by kernel_rfl) ?_ _
    (try dsimp only)
    repeat (first | go_values | go_skip | go_guarded | go_step | go_upon)
    have fin := hFin (by omega) (by omega) BEL.out (below_drewN W 1) R5.out R6.out #[.slice A ps.length c, .slice B rs.length d, .int .i64 z, .slice none 0 0]
    refine bodyPost_ret (results_cell_row_tmp rfl _ _ w.heap.size _ #[.slice A ps.length c, .slice B rs.length d, .int .i64 z, .slice none 0 0] (0, 0) _ rfl (setRow_heap (World.drew W) w.heap.size #[.slice none 0 0, .slice none 0 0, .int .i64 0, .slice none 0 0] _ _ (0, 0) VR) Tryz.underlying39 rfl (by kernel_rfl)) rfl ?_
    obtain rfl := HR.out
    exact ⟨⟨A, c, B, d, rfl, fin.2.1, fin.2.2⟩, fin.1⟩
  rcases hze : (ze == 0) with _ | _
  · have HR : Hid (R = ((((ps, rs), z) : (List Int × List Int) × Int), false)) := Lib.hid (by rw [HR.out, hze]; rfl)
    have SS : (fun W' => W'.cell? ⟨Kx, 0, none⟩ = some (.slice A ps.length c) ∧ W'.cell? ⟨Kx, 1, none⟩ = some (.slice B rs.length d) ∧ W'.cell? ⟨Kx, 2, none⟩ = some (.int .i64 z) ∧ W'.cell? ⟨Kx, 3, none⟩ = some (.slice none 0 0)) (World.drew W) := ⟨c0_, c1_, c2_, c3_⟩
    dsimp only at SS
    have SSc := SS
    obtain ⟨t0, t1, t2, t3⟩ := SSc
    have VD : (World.drew W).heap[w.heap.size]? = some (.cells #[.slice none 0 0, .slice none 0 0, .int .i64 0, .slice none 0 0] 39 (0, 0)) := VR
    refine wp_region_held_drew (S := (fun W' => W'.cell? ⟨Kx, 0, none⟩ = some (.slice A ps.length c) ∧ W'.cell? ⟨Kx, 1, none⟩ = some (.slice B rs.length d) ∧ W'.cell? ⟨Kx, 2, none⟩ = some (.int .i64 z) ∧ W'.cell? ⟨Kx, 3, none⟩ = some (.slice none 0 0))) (by kernel_rfl) ?_ (fun hHeld0 => ?_)
    · first | assumption | go_keep
    refine wpAnyH_take (i := 0) (oi := { dst := some 67, op := Go.Op.load 39 (Go.Operand.tmp 18), type := 39, pos := "text.go:211", after := #[], guard := none }) (v := ?v_3_0) rfl (by kernel_rfl) (by kernel_rfl) (by kernel_rfl) (fun _ _ _ h => h) (Or.inl ⟨by rfl, ?hy_3_0⟩) (by assumption) ?rest_3_0
    case hy_3_0 => (intro w hSw; (try dsimp only at hSw); go_simp; (try (with_reducible rfl)))
    (try simp only [Act.put, List.setIfInBounds_toArray, List.set_cons_succ, List.set_cons_zero])
    refine wpAnyH_take (i := 1) (oi := { dst := some 68, op := Go.Op.move (Go.Operand.tmp 13), type := 4, pos := "text.go:211", after := #[], guard := none }) (v := ?v_3_1) rfl (by kernel_rfl) (by kernel_rfl) (by kernel_rfl) (fun _ _ _ h => h) (Or.inl ⟨by rfl, ?hy_3_1⟩) (by assumption) ?rest_3_1
    case hy_3_1 => (intro w hSw; (try dsimp only at hSw); go_simp; (try (with_reducible rfl)))
    (try simp only [Act.put, List.setIfInBounds_toArray, List.set_cons_succ, List.set_cons_zero])
    refine wpAnyH_take (i := 2) (oi := { dst := some 69, op := Go.Op.move (Go.Operand.tmp 68), type := 4, pos := "text.go:211", after := #[{ on := 1, ground := Go.Ground.data }], guard := none }) (v := ?v_3_2) rfl (by kernel_rfl) (by kernel_rfl) (by kernel_rfl) (fun _ _ _ h => h) (Or.inl ⟨by rfl, ?hy_3_2⟩) (by assumption) ?rest_3_2
    case hy_3_2 => (intro w hSw; (try dsimp only at hSw); go_simp; (try (with_reducible rfl)))
    (try simp only [Act.put, List.setIfInBounds_toArray, List.set_cons_succ, List.set_cons_zero])
    refine wpAnyH_take (i := 3) (oi := { dst := some 70, op := Go.Op.move (Go.Operand.tmp 15), type := 4, pos := "text.go:211", after := #[{ on := 2, ground := Go.Ground.guard }], guard := some (2, true) }) (v := ?v_3_3) rfl (by kernel_rfl) (by kernel_rfl) (by kernel_rfl) (fun _ _ _ h => h) (Or.inl ⟨by rfl, ?hy_3_3⟩) (by assumption) ?rest_3_3
    case hy_3_3 => (intro w hSw; (try dsimp only at hSw); go_simp; (try (with_reducible rfl)))
    (try simp only [Act.put, List.setIfInBounds_toArray, List.set_cons_succ, List.set_cons_zero])
    refine wpAnyH_take (i := 4) (oi := { dst := some 71, op := Go.Op.pick (Go.Operand.tmp 69) (Go.Operand.tmp 70) (Go.Operand.const (Go.Value.bool false)), type := 4, pos := "text.go:211", after := #[{ on := 2, ground := Go.Ground.data }, { on := 3, ground := Go.Ground.data }], guard := none }) (v := ?v_3_4) rfl (by kernel_rfl) (by kernel_rfl) (by kernel_rfl) (fun _ _ _ h => h) (Or.inl ⟨by rfl, ?hy_3_4⟩) (by assumption) ?rest_3_4
    case hy_3_4 => (intro w hSw; (try dsimp only at hSw); go_simp; (try (with_reducible rfl)))
    (try simp only [Act.put, List.setIfInBounds_toArray, List.set_cons_succ, List.set_cons_zero])
    refine wpAnyH_take (i := 5) (oi := { dst := some 72, op := Go.Op.move (Go.Operand.tmp 71), type := 4, pos := "text.go:211", after := #[{ on := 4, ground := Go.Ground.data }, { on := 2, ground := Go.Ground.chain }], guard := none }) (v := ?v_3_5) rfl (by kernel_rfl) (by kernel_rfl) (by kernel_rfl) (fun _ _ _ h => h) (Or.inl ⟨by rfl, ?hy_3_5⟩) (by assumption) ?rest_3_5
    case hy_3_5 => (intro w hSw; (try dsimp only at hSw); go_simp; (try (with_reducible rfl)))
    (try simp only [Act.put, List.setIfInBounds_toArray, List.set_cons_succ, List.set_cons_zero])
    refine wpAnyH_take (i := 6) (oi := { dst := some 73, op := Go.Op.move (Go.Operand.tmp 17), type := 43, pos := "text.go:211", after := #[{ on := 5, ground := Go.Ground.guard }], guard := some (5, true) }) (v := ?v_3_6) rfl (by kernel_rfl) (by kernel_rfl) (by kernel_rfl) (fun _ _ _ h => h) (Or.inl ⟨by rfl, ?hy_3_6⟩) (by assumption) ?rest_3_6
    case hy_3_6 => (intro w hSw; (try dsimp only at hSw); go_simp; (try (with_reducible rfl)))
    (try simp only [Act.put, List.setIfInBounds_toArray, List.set_cons_succ, List.set_cons_zero])
    refine wpAnyH_take (i := 7) (oi := { dst := some 74, op := Go.Op.binOp Go.BinOp.eql 43 (Go.Operand.tmp 73) (Go.Operand.const (Go.Value.int Go.IntKind.i64 0)) 43, type := 4, pos := "text.go:211", after := #[{ on := 6, ground := Go.Ground.data }, { on := 5, ground := Go.Ground.guard }], guard := some (5, true) }) (v := ?v_3_7) rfl (by kernel_rfl) (by kernel_rfl) (by kernel_rfl) (fun _ _ _ h => h) (Or.inl ⟨by rfl, ?hy_3_7⟩) (by assumption) ?rest_3_7
    case hy_3_7 => (intro w hSw; (try dsimp only at hSw); go_simp; (try (with_reducible rfl)))
    (try simp only [Act.put, List.setIfInBounds_toArray, List.set_cons_succ, List.set_cons_zero])
    refine wpAnyH_take (i := 8) (oi := { dst := some 75, op := Go.Op.pick (Go.Operand.tmp 72) (Go.Operand.tmp 74) (Go.Operand.const (Go.Value.bool false)), type := 4, pos := "text.go:211", after := #[{ on := 5, ground := Go.Ground.data }, { on := 7, ground := Go.Ground.data }], guard := none }) (v := ?v_3_8) rfl (by kernel_rfl) (by kernel_rfl) (by kernel_rfl) (fun _ _ _ h => h) (Or.inl ⟨by rfl, ?hy_3_8⟩) (by assumption) ?rest_3_8
    case hy_3_8 => (intro w hSw; (try dsimp only at hSw); go_simp; (try (with_reducible rfl)))
    (try simp only [Act.put, List.setIfInBounds_toArray, List.set_cons_succ, List.set_cons_zero])
    refine wpAnyH_take (i := 9) (oi := { dst := some 76, op := Go.Op.move (Go.Operand.tmp 75), type := 4, pos := "text.go:211", after := #[{ on := 8, ground := Go.Ground.data }, { on := 5, ground := Go.Ground.chain }], guard := none }) (v := ?v_3_9) rfl (by kernel_rfl) (by kernel_rfl) (by kernel_rfl) (fun _ _ _ h => h) (Or.inl ⟨by rfl, ?hy_3_9⟩) (by assumption) ?rest_3_9
    case hy_3_9 => (intro w hSw; (try dsimp only at hSw); go_simp; (try (with_reducible rfl)))
    (try simp only [Act.put, List.setIfInBounds_toArray, List.set_cons_succ, List.set_cons_zero])
    refine wpAnyH_take (i := 10) (oi := { dst := some 77, op := Go.Op.load 39 (Go.Operand.tmp 18), type := 39, pos := "text.go:211", after := #[{ on := 9, ground := Go.Ground.guard }], guard := some (9, true) }) (v := undef) rfl (by kernel_rfl) (by kernel_rfl) (by kernel_rfl) (fun _ _ _ h => h) (Or.inr ⟨by rfl, rfl⟩) (by assumption) ?rest_3_10
    (try simp only [Act.put, List.setIfInBounds_toArray, List.set_cons_succ, List.set_cons_zero])
    refine wpAnyH_take (i := 11) (oi := { dst := some 78, op := Go.Op.call { callee := Go.Callee.value (Go.Operand.func 31), args := #[Go.Operand.tmp 77], argTypes := #[39] }, type := 9, pos := "text.go:211", after := #[{ on := 10, ground := Go.Ground.data }, { on := 9, ground := Go.Ground.chain }, { on := 9, ground := Go.Ground.guard }], guard := some (9, true) }) (v := undef) rfl (by kernel_rfl) (by kernel_rfl) (by kernel_rfl) (fun _ _ _ h => h) (Or.inr ⟨by rfl, rfl⟩) (by assumption) ?rest_3_11
    (try simp only [Act.put, List.setIfInBounds_toArray, List.set_cons_succ, List.set_cons_zero])
    refine wpAnyH_take (i := 12) (oi := { dst := some 79, op := Go.Op.move (Go.Operand.tmp 0), type := 9, pos := "text.go:211", after := #[{ on := 9, ground := Go.Ground.guard }, { on := 15, ground := Go.Ground.gcOnly Go.Departure.lateStores }], guard := some (9, true) }) (v := undef) rfl (by kernel_rfl) (by kernel_rfl) (by kernel_rfl) (fun _ _ _ h => h) (Or.inr ⟨by rfl, rfl⟩) (by assumption) ?rest_3_12
    (try simp only [Act.put, List.setIfInBounds_toArray, List.set_cons_succ, List.set_cons_zero])
    refine wpAnyH_take (i := 13) (oi := { dst := some 80, op := Go.Op.binOp Go.BinOp.eql 9 (Go.Operand.tmp 78) (Go.Operand.tmp 79) 9, type := 4, pos := "text.go:211", after := #[{ on := 11, ground := Go.Ground.data }, { on := 12, ground := Go.Ground.data }, { on := 9, ground := Go.Ground.guard }, { on := 15, ground := Go.Ground.gcOnly Go.Departure.lateStores }], guard := some (9, true) }) (v := undef) rfl (by kernel_rfl) (by kernel_rfl) (by kernel_rfl) (fun _ _ _ h => h) (Or.inr ⟨by rfl, rfl⟩) (by assumption) ?rest_3_13
    (try simp only [Act.put, List.setIfInBounds_toArray, List.set_cons_succ, List.set_cons_zero])
    refine wpAnyH_take (i := 14) (oi := { dst := some 81, op := Go.Op.pick (Go.Operand.tmp 76) (Go.Operand.tmp 80) (Go.Operand.const (Go.Value.bool false)), type := 4, pos := "text.go:211", after := #[{ on := 9, ground := Go.Ground.data }, { on := 13, ground := Go.Ground.data }, { on := 15, ground := Go.Ground.gcOnly Go.Departure.lateStores }], guard := none }) (v := ?v_3_14) rfl (by kernel_rfl) (by kernel_rfl) (by kernel_rfl) (fun _ _ _ h => h) (Or.inl ⟨by rfl, ?hy_3_14⟩) (by assumption) ?rest_3_14
    case hy_3_14 => (intro w hSw; (try dsimp only at hSw); go_simp; (try (with_reducible rfl)))
    (try simp only [Act.put, List.setIfInBounds_toArray, List.set_cons_succ, List.set_cons_zero])
    refine wpAnyH_ready (rs := [15]) (by kernel_rfl) (by simp) ?_
    refine AllReadyH.cons (o := ⟨none, .store 39 (.tmp 2) (.tmp 67), 0, "text.go:211", #[⟨0, .data⟩, ⟨11, .chain⟩, ⟨0, .phase⟩, { on := 1, ground := .textOnly Go.Departure.lateStores }, { on := 2, ground := .textOnly Go.Departure.lateStores }, { on := 3, ground := .textOnly Go.Departure.lateStores }, { on := 4, ground := .textOnly Go.Departure.lateStores }, { on := 5, ground := .textOnly Go.Departure.lateStores }, { on := 6, ground := .textOnly Go.Departure.lateStores }, { on := 7, ground := .textOnly Go.Departure.lateStores }, { on := 8, ground := .textOnly Go.Departure.lateStores }, { on := 9, ground := .textOnly Go.Departure.lateStores }, { on := 10, ground := .textOnly Go.Departure.lateStores }, { on := 11, ground := .textOnly Go.Departure.lateStoresUnsure }, { on := 12, ground := .textOnly Go.Departure.lateStores }, { on := 13, ground := .textOnly Go.Departure.lateStores }, { on := 14, ground := .textOnly Go.Departure.lateStores }], none⟩) rfl (fun K hK => ?_) AllReadyH.nil
    (rw [if_pos (by rfl)]; refine wp_store_row 39 (.tmp 2) (.tmp 67) rfl w.heap.size #[.slice A ps.length c, .slice B rs.length d, .int .i64 z, .slice none 0 0] rfl rfl 39 #[.slice none 0 0, .slice none 0 0, .int .i64 0, .slice none 0 0] VD info_mfun rfl (by simp [Value.oneCell']) ?_; have gS := setRow_grown (World.drew W) w.heap.size #[.slice A ps.length c, .slice B rs.length d, .int .i64 z, .slice none 0 0]; have SS2 : (fun W' => W'.cell? ⟨Kx, 0, none⟩ = some (.slice A ps.length c) ∧ W'.cell? ⟨Kx, 1, none⟩ = some (.slice B rs.length d) ∧ W'.cell? ⟨Kx, 2, none⟩ = some (.int .i64 z) ∧ W'.cell? ⟨Kx, 3, none⟩ = some (.slice none 0 0)) ((World.drew W).setRow w.heap.size #[.slice A ps.length c, .slice B rs.length d, .int .i64 z, .slice none 0 0]) := ⟨gS.cell t0 (by simp; omega), gS.cell t1 (by simp; omega), gS.cell t2 (by simp; omega), gS.cell t3 (by simp; omega)⟩; dsimp only at SS2)
    (try dsimp only)
    refine hK.out _ _ ?_ (fun hHeld1 => ?_)
    · first | trivial | ((try dsimp only); first | assumption | trivial | go_keep)
    clear hK K hHeld0
    (try simp only [Act.put, List.setIfInBounds_toArray, List.set_cons_succ, List.set_cons_zero])
    refine wpAnyH_take (i := 16) (oi := { dst := some 3, op := Go.Op.assign (Go.Operand.tmp 81), type := 4, pos := "text.go:211", after := #[{ on := 14, ground := Go.Ground.data }, { on := 15, ground := Go.Ground.chain }, { on := 0, ground := Go.Ground.phase }, { on := 1, ground := Go.Ground.phase }, { on := 2, ground := Go.Ground.phase }, { on := 3, ground := Go.Ground.phase }, { on := 4, ground := Go.Ground.phase }, { on := 5, ground := Go.Ground.phase }, { on := 6, ground := Go.Ground.phase }, { on := 7, ground := Go.Ground.phase }, { on := 8, ground := Go.Ground.phase }, { on := 9, ground := Go.Ground.phase }, { on := 10, ground := Go.Ground.phase }, { on := 11, ground := Go.Ground.phase }, { on := 12, ground := Go.Ground.phase }, { on := 13, ground := Go.Ground.phase }, { on := 14, ground := Go.Ground.phase }, { on := 15, ground := Go.Ground.phase }], guard := none }) (v := ?v_3_16) rfl (by kernel_rfl) (by kernel_rfl) (by kernel_rfl) (fun _ _ _ h => h) (Or.inl ⟨by rfl, ?hy_3_16⟩) (by assumption) ?rest_3_16
    case hy_3_16 => (intro w hSw; (try dsimp only at hSw); go_simp; (try (with_reducible rfl)))
    (try simp only [Act.put, List.setIfInBounds_toArray, List.set_cons_succ, List.set_cons_zero])
    refine wpAnyH_done (by kernel_rfl) ?_ _
    (try dsimp only)
    repeat (first | go_values | go_skip | go_guarded | go_step | go_upon)
    have fin := hFin (by omega) (by omega) BEL.out (below_drewN W 1) R5.out R6.out #[.slice A ps.length c, .slice B rs.length d, .int .i64 z, .slice none 0 0]
    refine bodyPost_ret (results_cell_row_tmp rfl _ _ w.heap.size _ #[.slice A ps.length c, .slice B rs.length d, .int .i64 z, .slice none 0 0] (0, 0) _ rfl (setRow_heap (World.drew W) w.heap.size #[.slice none 0 0, .slice none 0 0, .int .i64 0, .slice none 0 0] _ _ (0, 0) VR) Tryz.underlying39 rfl (by kernel_rfl)) rfl ?_
    obtain rfl := HR.out
    exact ⟨⟨A, c, B, d, rfl, fin.2.1, fin.2.2⟩, fin.1⟩
  have HR : Hid (R = ((((ps, rs), z) : (List Int × List Int) × Int), (Mc.head ps rs z == s))) := Lib.hid (by rw [HR.out, hze]; rfl)
  by_cases he : Mc.head ps rs z = s
  · have HR : Hid (R = ((((ps, rs), z) : (List Int × List Int) × Int), true)) := Lib.hid (by rw [HR.out, he]; simp)
    rw [he] at HIns
    clear he
    have SS : (fun W' => W'.cell? ⟨Kx, 0, none⟩ = some (.slice A ps.length c) ∧ W'.cell? ⟨Kx, 1, none⟩ = some (.slice B rs.length d) ∧ W'.cell? ⟨Kx, 2, none⟩ = some (.int .i64 z) ∧ W'.cell? ⟨Kx, 3, none⟩ = some (.slice none 0 0)) (World.drew W) := ⟨c0_, c1_, c2_, c3_⟩
    dsimp only at SS
    have SSc := SS
    obtain ⟨t0, t1, t2, t3⟩ := SSc
    have VD : (World.drew W).heap[w.heap.size]? = some (.cells #[.slice none 0 0, .slice none 0 0, .int .i64 0, .slice none 0 0] 39 (0, 0)) := VR
    refine wp_region_held_drew (S := (fun W' => W'.cell? ⟨Kx, 0, none⟩ = some (.slice A ps.length c) ∧ W'.cell? ⟨Kx, 1, none⟩ = some (.slice B rs.length d) ∧ W'.cell? ⟨Kx, 2, none⟩ = some (.int .i64 z) ∧ W'.cell? ⟨Kx, 3, none⟩ = some (.slice none 0 0))) (by kernel_rfl) ?_ (fun hHeld0 => ?_)
    · first | assumption | go_keep
    refine wpAnyH_take (i := 0) (oi := { dst := some 67, op := Go.Op.load 39 (Go.Operand.tmp 18), type := 39, pos := "text.go:211", after := #[], guard := none }) (v := ?v_4_0) rfl (by kernel_rfl) (by kernel_rfl) (by kernel_rfl) (fun _ _ _ h => h) (Or.inl ⟨by rfl, ?hy_4_0⟩) (by assumption) ?rest_4_0
    case hy_4_0 => (intro w hSw; (try dsimp only at hSw); go_simp; (try (with_reducible rfl)))
    (try simp only [Act.put, List.setIfInBounds_toArray, List.set_cons_succ, List.set_cons_zero])
    refine wpAnyH_take (i := 1) (oi := { dst := some 68, op := Go.Op.move (Go.Operand.tmp 13), type := 4, pos := "text.go:211", after := #[], guard := none }) (v := ?v_4_1) rfl (by kernel_rfl) (by kernel_rfl) (by kernel_rfl) (fun _ _ _ h => h) (Or.inl ⟨by rfl, ?hy_4_1⟩) (by assumption) ?rest_4_1
    case hy_4_1 => (intro w hSw; (try dsimp only at hSw); go_simp; (try (with_reducible rfl)))
    (try simp only [Act.put, List.setIfInBounds_toArray, List.set_cons_succ, List.set_cons_zero])
    refine wpAnyH_take (i := 2) (oi := { dst := some 69, op := Go.Op.move (Go.Operand.tmp 68), type := 4, pos := "text.go:211", after := #[{ on := 1, ground := Go.Ground.data }], guard := none }) (v := ?v_4_2) rfl (by kernel_rfl) (by kernel_rfl) (by kernel_rfl) (fun _ _ _ h => h) (Or.inl ⟨by rfl, ?hy_4_2⟩) (by assumption) ?rest_4_2
    case hy_4_2 => (intro w hSw; (try dsimp only at hSw); go_simp; (try (with_reducible rfl)))
    (try simp only [Act.put, List.setIfInBounds_toArray, List.set_cons_succ, List.set_cons_zero])
    refine wpAnyH_take (i := 3) (oi := { dst := some 70, op := Go.Op.move (Go.Operand.tmp 15), type := 4, pos := "text.go:211", after := #[{ on := 2, ground := Go.Ground.guard }], guard := some (2, true) }) (v := ?v_4_3) rfl (by kernel_rfl) (by kernel_rfl) (by kernel_rfl) (fun _ _ _ h => h) (Or.inl ⟨by rfl, ?hy_4_3⟩) (by assumption) ?rest_4_3
    case hy_4_3 => (intro w hSw; (try dsimp only at hSw); go_simp; (try (with_reducible rfl)))
    (try simp only [Act.put, List.setIfInBounds_toArray, List.set_cons_succ, List.set_cons_zero])
    refine wpAnyH_take (i := 4) (oi := { dst := some 71, op := Go.Op.pick (Go.Operand.tmp 69) (Go.Operand.tmp 70) (Go.Operand.const (Go.Value.bool false)), type := 4, pos := "text.go:211", after := #[{ on := 2, ground := Go.Ground.data }, { on := 3, ground := Go.Ground.data }], guard := none }) (v := ?v_4_4) rfl (by kernel_rfl) (by kernel_rfl) (by kernel_rfl) (fun _ _ _ h => h) (Or.inl ⟨by rfl, ?hy_4_4⟩) (by assumption) ?rest_4_4
    case hy_4_4 => (intro w hSw; (try dsimp only at hSw); go_simp; (try (with_reducible rfl)))
    (try simp only [Act.put, List.setIfInBounds_toArray, List.set_cons_succ, List.set_cons_zero])
    refine wpAnyH_take (i := 5) (oi := { dst := some 72, op := Go.Op.move (Go.Operand.tmp 71), type := 4, pos := "text.go:211", after := #[{ on := 4, ground := Go.Ground.data }, { on := 2, ground := Go.Ground.chain }], guard := none }) (v := ?v_4_5) rfl (by kernel_rfl) (by kernel_rfl) (by kernel_rfl) (fun _ _ _ h => h) (Or.inl ⟨by rfl, ?hy_4_5⟩) (by assumption) ?rest_4_5
    case hy_4_5 => (intro w hSw; (try dsimp only at hSw); go_simp; (try (with_reducible rfl)))
    (try simp only [Act.put, List.setIfInBounds_toArray, List.set_cons_succ, List.set_cons_zero])
    refine wpAnyH_take (i := 6) (oi := { dst := some 73, op := Go.Op.move (Go.Operand.tmp 17), type := 43, pos := "text.go:211", after := #[{ on := 5, ground := Go.Ground.guard }], guard := some (5, true) }) (v := ?v_4_6) rfl (by kernel_rfl) (by kernel_rfl) (by kernel_rfl) (fun _ _ _ h => h) (Or.inl ⟨by rfl, ?hy_4_6⟩) (by assumption) ?rest_4_6
    case hy_4_6 => (intro w hSw; (try dsimp only at hSw); go_simp; (try (with_reducible rfl)))
    (try simp only [Act.put, List.setIfInBounds_toArray, List.set_cons_succ, List.set_cons_zero])
    refine wpAnyH_take (i := 7) (oi := { dst := some 74, op := Go.Op.binOp Go.BinOp.eql 43 (Go.Operand.tmp 73) (Go.Operand.const (Go.Value.int Go.IntKind.i64 0)) 43, type := 4, pos := "text.go:211", after := #[{ on := 6, ground := Go.Ground.data }, { on := 5, ground := Go.Ground.guard }], guard := some (5, true) }) (v := ?v_4_7) rfl (by kernel_rfl) (by kernel_rfl) (by kernel_rfl) (fun _ _ _ h => h) (Or.inl ⟨by rfl, ?hy_4_7⟩) (by assumption) ?rest_4_7
    case hy_4_7 => (intro w hSw; (try dsimp only at hSw); go_simp; (try (with_reducible rfl)))
    (try simp only [Act.put, List.setIfInBounds_toArray, List.set_cons_succ, List.set_cons_zero])
    refine wpAnyH_take (i := 8) (oi := { dst := some 75, op := Go.Op.pick (Go.Operand.tmp 72) (Go.Operand.tmp 74) (Go.Operand.const (Go.Value.bool false)), type := 4, pos := "text.go:211", after := #[{ on := 5, ground := Go.Ground.data }, { on := 7, ground := Go.Ground.data }], guard := none }) (v := ?v_4_8) rfl (by kernel_rfl) (by kernel_rfl) (by kernel_rfl) (fun _ _ _ h => h) (Or.inl ⟨by rfl, ?hy_4_8⟩) (by assumption) ?rest_4_8
    case hy_4_8 => (intro w hSw; (try dsimp only at hSw); go_simp; (try (with_reducible rfl)))
    (try simp only [Act.put, List.setIfInBounds_toArray, List.set_cons_succ, List.set_cons_zero])
    refine wpAnyH_take (i := 9) (oi := { dst := some 76, op := Go.Op.move (Go.Operand.tmp 75), type := 4, pos := "text.go:211", after := #[{ on := 8, ground := Go.Ground.data }, { on := 5, ground := Go.Ground.chain }], guard := none }) (v := ?v_4_9) rfl (by kernel_rfl) (by kernel_rfl) (by kernel_rfl) (fun _ _ _ h => h) (Or.inl ⟨by rfl, ?hy_4_9⟩) (by assumption) ?rest_4_9
    case hy_4_9 => (intro w hSw; (try dsimp only at hSw); go_simp; (try (with_reducible rfl)))
    (try simp only [Act.put, List.setIfInBounds_toArray, List.set_cons_succ, List.set_cons_zero])
    refine wpAnyH_take (i := 10) (oi := { dst := some 77, op := Go.Op.load 39 (Go.Operand.tmp 18), type := 39, pos := "text.go:211", after := #[{ on := 9, ground := Go.Ground.guard }], guard := some (9, true) }) (v := ?v_4_10) rfl (by kernel_rfl) (by kernel_rfl) (by kernel_rfl) (fun _ _ _ h => h) (Or.inl ⟨by rfl, ?hy_4_10⟩) (by assumption) ?rest_4_10
    case hy_4_10 => (intro w hSw; (try dsimp only at hSw); go_simp; (try (with_reducible rfl)))
    (try simp only [Act.put, List.setIfInBounds_toArray, List.set_cons_succ, List.set_cons_zero])
    refine wpAnyH_take (i := 12) (oi := { dst := some 79, op := Go.Op.move (Go.Operand.tmp 0), type := 9, pos := "text.go:211", after := #[{ on := 9, ground := Go.Ground.guard }, { on := 15, ground := Go.Ground.gcOnly Go.Departure.lateStores }], guard := some (9, true) }) (v := ?v_4_12) rfl (by kernel_rfl) (by kernel_rfl) (by kernel_rfl) (fun _ _ _ h => h) (Or.inl ⟨by rfl, ?hy_4_12⟩) (by assumption) ?rest_4_12
    case hy_4_12 => (intro w hSw; (try dsimp only at hSw); go_simp; (try (with_reducible rfl)))
    (try simp only [Act.put, List.setIfInBounds_toArray, List.set_cons_succ, List.set_cons_zero])
    refine wpAnyH_ready (rs := [11]) (by kernel_rfl) (by simp) ?_
    refine AllReadyH.cons (o := ⟨some 78, .call { callee := .value (.func 31), args := #[.tmp 77], argTypes := #[39] }, 9, "text.go:211", #[⟨10, .data⟩, ⟨9, .chain⟩, ⟨9, .guard⟩], some (9, true)⟩) rfl (fun K hK => ?_) AllReadyH.nil
    go_simp
    (refine HIns.out.mono ?_; rintro e w5 ⟨rfl, hb5⟩; have U5 := Lib.hid ((below_drewN W 1).trans (hb5.mono (Nat.le_refl _))); have V5 := var_keep VR U5.out; have kp := Below.keep U5.out (fun _ => True); have d0 := kp _ _ trivial c0_; have d1 := kp _ _ trivial c1_; have d2 := kp _ _ trivial c2_; have d3 := kp _ _ trivial c3_; clear kp hb5; have SS5 : (fun W' => W'.cell? ⟨Kx, 0, none⟩ = some (.slice A ps.length c) ∧ W'.cell? ⟨Kx, 1, none⟩ = some (.slice B rs.length d) ∧ W'.cell? ⟨Kx, 2, none⟩ = some (.int .i64 z) ∧ W'.cell? ⟨Kx, 3, none⟩ = some (.slice none 0 0)) w5 := ⟨d0, d1, d2, d3⟩; dsimp only at SS5)
    (try dsimp only)
    refine hK.out _ _ ?_ (fun hHeld1 => ?_)
    · first | trivial | ((try dsimp only); first | assumption | trivial | go_keep)
    clear hK K hHeld0
    (try simp only [Act.put, List.setIfInBounds_toArray, List.set_cons_succ, List.set_cons_zero])
    refine wpAnyH_take (i := 13) (oi := { dst := some 80, op := Go.Op.binOp Go.BinOp.eql 9 (Go.Operand.tmp 78) (Go.Operand.tmp 79) 9, type := 4, pos := "text.go:211", after := #[{ on := 11, ground := Go.Ground.data }, { on := 12, ground := Go.Ground.data }, { on := 9, ground := Go.Ground.guard }, { on := 15, ground := Go.Ground.gcOnly Go.Departure.lateStores }], guard := some (9, true) }) (v := ?v_4_13) rfl (by kernel_rfl) (by kernel_rfl) (by kernel_rfl) (fun _ _ _ h => h) (Or.inl ⟨by rfl, ?hy_4_13⟩) (by assumption) ?rest_4_13
    case hy_4_13 => (intro w hSw; (try dsimp only at hSw); go_simp; (try (with_reducible rfl)))
    (try simp only [Act.put, List.setIfInBounds_toArray, List.set_cons_succ, List.set_cons_zero])
    refine wpAnyH_take (i := 14) (oi := { dst := some 81, op := Go.Op.pick (Go.Operand.tmp 76) (Go.Operand.tmp 80) (Go.Operand.const (Go.Value.bool false)), type := 4, pos := "text.go:211", after := #[{ on := 9, ground := Go.Ground.data }, { on := 13, ground := Go.Ground.data }, { on := 15, ground := Go.Ground.gcOnly Go.Departure.lateStores }], guard := none }) (v := ?v_4_14) rfl (by kernel_rfl) (by kernel_rfl) (by kernel_rfl) (fun _ _ _ h => h) (Or.inl ⟨by rfl, ?hy_4_14⟩) (by assumption) ?rest_4_14
    case hy_4_14 => (intro w hSw; (try dsimp only at hSw); go_simp; (try (with_reducible rfl)))
    (try simp only [Act.put, List.setIfInBounds_toArray, List.set_cons_succ, List.set_cons_zero])
    refine wpAnyH_ready (rs := [15]) (by kernel_rfl) (by simp) ?_
    refine AllReadyH.cons (o := ⟨none, .store 39 (.tmp 2) (.tmp 67), 0, "text.go:211", #[⟨0, .data⟩, ⟨11, .chain⟩, ⟨0, .phase⟩, { on := 1, ground := .textOnly Go.Departure.lateStores }, { on := 2, ground := .textOnly Go.Departure.lateStores }, { on := 3, ground := .textOnly Go.Departure.lateStores }, { on := 4, ground := .textOnly Go.Departure.lateStores }, { on := 5, ground := .textOnly Go.Departure.lateStores }, { on := 6, ground := .textOnly Go.Departure.lateStores }, { on := 7, ground := .textOnly Go.Departure.lateStores }, { on := 8, ground := .textOnly Go.Departure.lateStores }, { on := 9, ground := .textOnly Go.Departure.lateStores }, { on := 10, ground := .textOnly Go.Departure.lateStores }, { on := 11, ground := .textOnly Go.Departure.lateStoresUnsure }, { on := 12, ground := .textOnly Go.Departure.lateStores }, { on := 13, ground := .textOnly Go.Departure.lateStores }, { on := 14, ground := .textOnly Go.Departure.lateStores }], none⟩) rfl (fun K hK => ?_) AllReadyH.nil
    (rw [if_pos (by rfl)]; refine wp_store_row 39 (.tmp 2) (.tmp 67) rfl w.heap.size #[.slice A ps.length c, .slice B rs.length d, .int .i64 z, .slice none 0 0] rfl rfl 39 #[.slice none 0 0, .slice none 0 0, .int .i64 0, .slice none 0 0] V5 info_mfun rfl (by simp [Value.oneCell']) ?_; have gS := setRow_grown w5 w.heap.size #[.slice A ps.length c, .slice B rs.length d, .int .i64 z, .slice none 0 0]; have SS2 : (fun W' => W'.cell? ⟨Kx, 0, none⟩ = some (.slice A ps.length c) ∧ W'.cell? ⟨Kx, 1, none⟩ = some (.slice B rs.length d) ∧ W'.cell? ⟨Kx, 2, none⟩ = some (.int .i64 z) ∧ W'.cell? ⟨Kx, 3, none⟩ = some (.slice none 0 0)) (w5.setRow w.heap.size #[.slice A ps.length c, .slice B rs.length d, .int .i64 z, .slice none 0 0]) := ⟨gS.cell d0 (by simp; omega), gS.cell d1 (by simp; omega), gS.cell d2 (by simp; omega), gS.cell d3 (by simp; omega)⟩; dsimp only at SS2)
    (try dsimp only)
    refine hK.out _ _ ?_ (fun hHeld2 => ?_)
    · first | trivial | ((try dsimp only); first | assumption | trivial | go_keep)
    clear hK K hHeld1
    (try simp only [Act.put, List.setIfInBounds_toArray, List.set_cons_succ, List.set_cons_zero])
    refine wpAnyH_take (i := 16) (oi := { dst := some 3, op := Go.Op.assign (Go.Operand.tmp 81), type := 4, pos := "text.go:211", after := #[{ on := 14, ground := Go.Ground.data }, { on := 15, ground := Go.Ground.chain }, { on := 0, ground := Go.Ground.phase }, { on := 1, ground := Go.Ground.phase }, { on := 2, ground := Go.Ground.phase }, { on := 3, ground := Go.Ground.phase }, { on := 4, ground := Go.Ground.phase }, { on := 5, ground := Go.Ground.phase }, { on := 6, ground := Go.Ground.phase }, { on := 7, ground := Go.Ground.phase }, { on := 8, ground := Go.Ground.phase }, { on := 9, ground := Go.Ground.phase }, { on := 10, ground := Go.Ground.phase }, { on := 11, ground := Go.Ground.phase }, { on := 12, ground := Go.Ground.phase }, { on := 13, ground := Go.Ground.phase }, { on := 14, ground := Go.Ground.phase }, { on := 15, ground := Go.Ground.phase }], guard := none }) (v := ?v_4_16) rfl (by kernel_rfl) (by kernel_rfl) (by kernel_rfl) (fun _ _ _ h => h) (Or.inl ⟨by rfl, ?hy_4_16⟩) (by assumption) ?rest_4_16
    case hy_4_16 => (intro w hSw; (try dsimp only at hSw); go_simp; (try (with_reducible rfl)))
    (try simp only [Act.put, List.setIfInBounds_toArray, List.set_cons_succ, List.set_cons_zero])
    refine wpAnyH_done (by kernel_rfl) ?_ _
    (try dsimp only)
    repeat (first | go_values | go_skip | go_guarded | go_step | go_upon)
    have fin := hFin (by omega) (by omega) BEL.out U5.out R5.out R6.out #[.slice A ps.length c, .slice B rs.length d, .int .i64 z, .slice none 0 0]
    refine bodyPost_ret (results_cell_row_tmp rfl _ _ w.heap.size _ #[.slice A ps.length c, .slice B rs.length d, .int .i64 z, .slice none 0 0] (0, 0) _ rfl (setRow_heap w5 w.heap.size #[.slice none 0 0, .slice none 0 0, .int .i64 0, .slice none 0 0] _ _ (0, 0) V5) Tryz.underlying39 rfl (by kernel_rfl)) rfl ?_
    obtain rfl := HR.out
    exact ⟨⟨A, c, B, d, rfl, fin.2.1, fin.2.2⟩, fin.1⟩
  · have hq2 : (Mc.head ps rs z == s) = false := by simpa using he
    have HR : Hid (R = ((((ps, rs), z) : (List Int × List Int) × Int), false)) := Lib.hid (by rw [HR.out, hq2])
    obtain ⟨J, hJ⟩ : ∃ x, Mc.head ps rs z = x := ⟨_, rfl⟩
    rw [hJ] at HIns he hq2
    have hq := beq_no he
    clear he hJ
    have SS : (fun W' => W'.cell? ⟨Kx, 0, none⟩ = some (.slice A ps.length c) ∧ W'.cell? ⟨Kx, 1, none⟩ = some (.slice B rs.length d) ∧ W'.cell? ⟨Kx, 2, none⟩ = some (.int .i64 z) ∧ W'.cell? ⟨Kx, 3, none⟩ = some (.slice none 0 0)) (World.drew W) := ⟨c0_, c1_, c2_, c3_⟩
    dsimp only at SS
    have SSc := SS
    obtain ⟨t0, t1, t2, t3⟩ := SSc
    have VD : (World.drew W).heap[w.heap.size]? = some (.cells #[.slice none 0 0, .slice none 0 0, .int .i64 0, .slice none 0 0] 39 (0, 0)) := VR
    refine wp_region_held_drew (S := (fun W' => W'.cell? ⟨Kx, 0, none⟩ = some (.slice A ps.length c) ∧ W'.cell? ⟨Kx, 1, none⟩ = some (.slice B rs.length d) ∧ W'.cell? ⟨Kx, 2, none⟩ = some (.int .i64 z) ∧ W'.cell? ⟨Kx, 3, none⟩ = some (.slice none 0 0))) (by kernel_rfl) ?_ (fun hHeld0 => ?_)
    · first | assumption | go_keep
    refine wpAnyH_take (i := 0) (oi := { dst := some 67, op := Go.Op.load 39 (Go.Operand.tmp 18), type := 39, pos := "text.go:211", after := #[], guard := none }) (v := ?v_5_0) rfl (by kernel_rfl) (by kernel_rfl) (by kernel_rfl) (fun _ _ _ h => h) (Or.inl ⟨by rfl, ?hy_5_0⟩) (by assumption) ?rest_5_0
    case hy_5_0 => (intro w hSw; (try dsimp only at hSw); go_simp; (try (with_reducible rfl)))
    (try simp only [Act.put, List.setIfInBounds_toArray, List.set_cons_succ, List.set_cons_zero])
    refine wpAnyH_take (i := 1) (oi := { dst := some 68, op := Go.Op.move (Go.Operand.tmp 13), type := 4, pos := "text.go:211", after := #[], guard := none }) (v := ?v_5_1) rfl (by kernel_rfl) (by kernel_rfl) (by kernel_rfl) (fun _ _ _ h => h) (Or.inl ⟨by rfl, ?hy_5_1⟩) (by assumption) ?rest_5_1
    case hy_5_1 => (intro w hSw; (try dsimp only at hSw); go_simp; (try (with_reducible rfl)))
    (try simp only [Act.put, List.setIfInBounds_toArray, List.set_cons_succ, List.set_cons_zero])
    refine wpAnyH_take (i := 2) (oi := { dst := some 69, op := Go.Op.move (Go.Operand.tmp 68), type := 4, pos := "text.go:211", after := #[{ on := 1, ground := Go.Ground.data }], guard := none }) (v := ?v_5_2) rfl (by kernel_rfl) (by kernel_rfl) (by kernel_rfl) (fun _ _ _ h => h) (Or.inl ⟨by rfl, ?hy_5_2⟩) (by assumption) ?rest_5_2
    case hy_5_2 => (intro w hSw; (try dsimp only at hSw); go_simp; (try (with_reducible rfl)))
    (try simp only [Act.put, List.setIfInBounds_toArray, List.set_cons_succ, List.set_cons_zero])
    refine wpAnyH_take (i := 3) (oi := { dst := some 70, op := Go.Op.move (Go.Operand.tmp 15), type := 4, pos := "text.go:211", after := #[{ on := 2, ground := Go.Ground.guard }], guard := some (2, true) }) (v := ?v_5_3) rfl (by kernel_rfl) (by kernel_rfl) (by kernel_rfl) (fun _ _ _ h => h) (Or.inl ⟨by rfl, ?hy_5_3⟩) (by assumption) ?rest_5_3
    case hy_5_3 => (intro w hSw; (try dsimp only at hSw); go_simp; (try (with_reducible rfl)))
    (try simp only [Act.put, List.setIfInBounds_toArray, List.set_cons_succ, List.set_cons_zero])
    refine wpAnyH_take (i := 4) (oi := { dst := some 71, op := Go.Op.pick (Go.Operand.tmp 69) (Go.Operand.tmp 70) (Go.Operand.const (Go.Value.bool false)), type := 4, pos := "text.go:211", after := #[{ on := 2, ground := Go.Ground.data }, { on := 3, ground := Go.Ground.data }], guard := none }) (v := ?v_5_4) rfl (by kernel_rfl) (by kernel_rfl) (by kernel_rfl) (fun _ _ _ h => h) (Or.inl ⟨by rfl, ?hy_5_4⟩) (by assumption) ?rest_5_4
    case hy_5_4 => (intro w hSw; (try dsimp only at hSw); go_simp; (try (with_reducible rfl)))
    (try simp only [Act.put, List.setIfInBounds_toArray, List.set_cons_succ, List.set_cons_zero])
    refine wpAnyH_take (i := 5) (oi := { dst := some 72, op := Go.Op.move (Go.Operand.tmp 71), type := 4, pos := "text.go:211", after := #[{ on := 4, ground := Go.Ground.data }, { on := 2, ground := Go.Ground.chain }], guard := none }) (v := ?v_5_5) rfl (by kernel_rfl) (by kernel_rfl) (by kernel_rfl) (fun _ _ _ h => h) (Or.inl ⟨by rfl, ?hy_5_5⟩) (by assumption) ?rest_5_5
    case hy_5_5 => (intro w hSw; (try dsimp only at hSw); go_simp; (try (with_reducible rfl)))
    (try simp only [Act.put, List.setIfInBounds_toArray, List.set_cons_succ, List.set_cons_zero])
    refine wpAnyH_take (i := 6) (oi := { dst := some 73, op := Go.Op.move (Go.Operand.tmp 17), type := 43, pos := "text.go:211", after := #[{ on := 5, ground := Go.Ground.guard }], guard := some (5, true) }) (v := ?v_5_6) rfl (by kernel_rfl) (by kernel_rfl) (by kernel_rfl) (fun _ _ _ h => h) (Or.inl ⟨by rfl, ?hy_5_6⟩) (by assumption) ?rest_5_6
    case hy_5_6 => (intro w hSw; (try dsimp only at hSw); go_simp; (try (with_reducible rfl)))
    (try simp only [Act.put, List.setIfInBounds_toArray, List.set_cons_succ, List.set_cons_zero])
    refine wpAnyH_take (i := 7) (oi := { dst := some 74, op := Go.Op.binOp Go.BinOp.eql 43 (Go.Operand.tmp 73) (Go.Operand.const (Go.Value.int Go.IntKind.i64 0)) 43, type := 4, pos := "text.go:211", after := #[{ on := 6, ground := Go.Ground.data }, { on := 5, ground := Go.Ground.guard }], guard := some (5, true) }) (v := ?v_5_7) rfl (by kernel_rfl) (by kernel_rfl) (by kernel_rfl) (fun _ _ _ h => h) (Or.inl ⟨by rfl, ?hy_5_7⟩) (by assumption) ?rest_5_7
    case hy_5_7 => (intro w hSw; (try dsimp only at hSw); go_simp; (try (with_reducible rfl)))
    (try simp only [Act.put, List.setIfInBounds_toArray, List.set_cons_succ, List.set_cons_zero])
    refine wpAnyH_take (i := 8) (oi := { dst := some 75, op := Go.Op.pick (Go.Operand.tmp 72) (Go.Operand.tmp 74) (Go.Operand.const (Go.Value.bool false)), type := 4, pos := "text.go:211", after := #[{ on := 5, ground := Go.Ground.data }, { on := 7, ground := Go.Ground.data }], guard := none }) (v := ?v_5_8) rfl (by kernel_rfl) (by kernel_rfl) (by kernel_rfl) (fun _ _ _ h => h) (Or.inl ⟨by rfl, ?hy_5_8⟩) (by assumption) ?rest_5_8
    case hy_5_8 => (intro w hSw; (try dsimp only at hSw); go_simp; (try (with_reducible rfl)))
    (try simp only [Act.put, List.setIfInBounds_toArray, List.set_cons_succ, List.set_cons_zero])
    refine wpAnyH_take (i := 9) (oi := { dst := some 76, op := Go.Op.move (Go.Operand.tmp 75), type := 4, pos := "text.go:211", after := #[{ on := 8, ground := Go.Ground.data }, { on := 5, ground := Go.Ground.chain }], guard := none }) (v := ?v_5_9) rfl (by kernel_rfl) (by kernel_rfl) (by kernel_rfl) (fun _ _ _ h => h) (Or.inl ⟨by rfl, ?hy_5_9⟩) (by assumption) ?rest_5_9
    case hy_5_9 => (intro w hSw; (try dsimp only at hSw); go_simp; (try (with_reducible rfl)))
    (try simp only [Act.put, List.setIfInBounds_toArray, List.set_cons_succ, List.set_cons_zero])
    refine wpAnyH_take (i := 10) (oi := { dst := some 77, op := Go.Op.load 39 (Go.Operand.tmp 18), type := 39, pos := "text.go:211", after := #[{ on := 9, ground := Go.Ground.guard }], guard := some (9, true) }) (v := ?v_5_10) rfl (by kernel_rfl) (by kernel_rfl) (by kernel_rfl) (fun _ _ _ h => h) (Or.inl ⟨by rfl, ?hy_5_10⟩) (by assumption) ?rest_5_10
    case hy_5_10 => (intro w hSw; (try dsimp only at hSw); go_simp; (try (with_reducible rfl)))
    (try simp only [Act.put, List.setIfInBounds_toArray, List.set_cons_succ, List.set_cons_zero])
    refine wpAnyH_take (i := 12) (oi := { dst := some 79, op := Go.Op.move (Go.Operand.tmp 0), type := 9, pos := "text.go:211", after := #[{ on := 9, ground := Go.Ground.guard }, { on := 15, ground := Go.Ground.gcOnly Go.Departure.lateStores }], guard := some (9, true) }) (v := ?v_5_12) rfl (by kernel_rfl) (by kernel_rfl) (by kernel_rfl) (fun _ _ _ h => h) (Or.inl ⟨by rfl, ?hy_5_12⟩) (by assumption) ?rest_5_12
    case hy_5_12 => (intro w hSw; (try dsimp only at hSw); go_simp; (try (with_reducible rfl)))
    (try simp only [Act.put, List.setIfInBounds_toArray, List.set_cons_succ, List.set_cons_zero])
    refine wpAnyH_ready (rs := [11]) (by kernel_rfl) (by simp) ?_
    refine AllReadyH.cons (o := ⟨some 78, .call { callee := .value (.func 31), args := #[.tmp 77], argTypes := #[39] }, 9, "text.go:211", #[⟨10, .data⟩, ⟨9, .chain⟩, ⟨9, .guard⟩], some (9, true)⟩) rfl (fun K hK => ?_) AllReadyH.nil
    go_simp
    (refine HIns.out.mono ?_; rintro e w5 ⟨rfl, hb5⟩; have U5 := Lib.hid ((below_drewN W 1).trans (hb5.mono (Nat.le_refl _))); have V5 := var_keep VR U5.out; have kp := Below.keep U5.out (fun _ => True); have d0 := kp _ _ trivial c0_; have d1 := kp _ _ trivial c1_; have d2 := kp _ _ trivial c2_; have d3 := kp _ _ trivial c3_; clear kp hb5; have SS5 : (fun W' => W'.cell? ⟨Kx, 0, none⟩ = some (.slice A ps.length c) ∧ W'.cell? ⟨Kx, 1, none⟩ = some (.slice B rs.length d) ∧ W'.cell? ⟨Kx, 2, none⟩ = some (.int .i64 z) ∧ W'.cell? ⟨Kx, 3, none⟩ = some (.slice none 0 0)) w5 := ⟨d0, d1, d2, d3⟩; dsimp only at SS5)
    (try dsimp only)
    refine hK.out _ _ ?_ (fun hHeld1 => ?_)
    · first | trivial | ((try dsimp only); first | assumption | trivial | go_keep)
    clear hK K hHeld0
    (try simp only [Act.put, List.setIfInBounds_toArray, List.set_cons_succ, List.set_cons_zero])
    refine wpAnyH_take (i := 13) (oi := { dst := some 80, op := Go.Op.binOp Go.BinOp.eql 9 (Go.Operand.tmp 78) (Go.Operand.tmp 79) 9, type := 4, pos := "text.go:211", after := #[{ on := 11, ground := Go.Ground.data }, { on := 12, ground := Go.Ground.data }, { on := 9, ground := Go.Ground.guard }, { on := 15, ground := Go.Ground.gcOnly Go.Departure.lateStores }], guard := some (9, true) }) (v := ?v_5_13) rfl (by kernel_rfl) (by kernel_rfl) (by kernel_rfl) (fun _ _ _ h => h) (Or.inl ⟨by rfl, ?hy_5_13⟩) (by assumption) ?rest_5_13
    case hy_5_13 => (intro w hSw; (try dsimp only at hSw); go_simp; (try (with_reducible rfl)))
    (try simp only [Act.put, List.setIfInBounds_toArray, List.set_cons_succ, List.set_cons_zero])
    refine wpAnyH_take (i := 14) (oi := { dst := some 81, op := Go.Op.pick (Go.Operand.tmp 76) (Go.Operand.tmp 80) (Go.Operand.const (Go.Value.bool false)), type := 4, pos := "text.go:211", after := #[{ on := 9, ground := Go.Ground.data }, { on := 13, ground := Go.Ground.data }, { on := 15, ground := Go.Ground.gcOnly Go.Departure.lateStores }], guard := none }) (v := ?v_5_14) rfl (by kernel_rfl) (by kernel_rfl) (by kernel_rfl) (fun _ _ _ h => h) (Or.inl ⟨by rfl, ?hy_5_14⟩) (by assumption) ?rest_5_14
    case hy_5_14 => (intro w hSw; (try dsimp only at hSw); go_simp; (try (with_reducible rfl)))
    (try simp only [Act.put, List.setIfInBounds_toArray, List.set_cons_succ, List.set_cons_zero])
    refine wpAnyH_ready (rs := [15]) (by kernel_rfl) (by simp) ?_
    refine AllReadyH.cons (o := ⟨none, .store 39 (.tmp 2) (.tmp 67), 0, "text.go:211", #[⟨0, .data⟩, ⟨11, .chain⟩, ⟨0, .phase⟩, { on := 1, ground := .textOnly Go.Departure.lateStores }, { on := 2, ground := .textOnly Go.Departure.lateStores }, { on := 3, ground := .textOnly Go.Departure.lateStores }, { on := 4, ground := .textOnly Go.Departure.lateStores }, { on := 5, ground := .textOnly Go.Departure.lateStores }, { on := 6, ground := .textOnly Go.Departure.lateStores }, { on := 7, ground := .textOnly Go.Departure.lateStores }, { on := 8, ground := .textOnly Go.Departure.lateStores }, { on := 9, ground := .textOnly Go.Departure.lateStores }, { on := 10, ground := .textOnly Go.Departure.lateStores }, { on := 11, ground := .textOnly Go.Departure.lateStoresUnsure }, { on := 12, ground := .textOnly Go.Departure.lateStores }, { on := 13, ground := .textOnly Go.Departure.lateStores }, { on := 14, ground := .textOnly Go.Departure.lateStores }], none⟩) rfl (fun K hK => ?_) AllReadyH.nil
    (rw [if_pos (by rfl)]; refine wp_store_row 39 (.tmp 2) (.tmp 67) rfl w.heap.size #[.slice A ps.length c, .slice B rs.length d, .int .i64 z, .slice none 0 0] rfl rfl 39 #[.slice none 0 0, .slice none 0 0, .int .i64 0, .slice none 0 0] V5 info_mfun rfl (by simp [Value.oneCell']) ?_; have gS := setRow_grown w5 w.heap.size #[.slice A ps.length c, .slice B rs.length d, .int .i64 z, .slice none 0 0]; have SS2 : (fun W' => W'.cell? ⟨Kx, 0, none⟩ = some (.slice A ps.length c) ∧ W'.cell? ⟨Kx, 1, none⟩ = some (.slice B rs.length d) ∧ W'.cell? ⟨Kx, 2, none⟩ = some (.int .i64 z) ∧ W'.cell? ⟨Kx, 3, none⟩ = some (.slice none 0 0)) (w5.setRow w.heap.size #[.slice A ps.length c, .slice B rs.length d, .int .i64 z, .slice none 0 0]) := ⟨gS.cell d0 (by simp; omega), gS.cell d1 (by simp; omega), gS.cell d2 (by simp; omega), gS.cell d3 (by simp; omega)⟩; dsimp only at SS2)
    (try dsimp only)
    refine hK.out _ _ ?_ (fun hHeld2 => ?_)
    · first | trivial | ((try dsimp only); first | assumption | trivial | go_keep)
    clear hK K hHeld1
    (try simp only [Act.put, List.setIfInBounds_toArray, List.set_cons_succ, List.set_cons_zero])
    refine wpAnyH_take (i := 16) (oi := { dst := some 3, op := Go.Op.assign (Go.Operand.tmp 81), type := 4, pos := "text.go:211", after := #[{ on := 14, ground := Go.Ground.data }, { on := 15, ground := Go.Ground.chain }, { on := 0, ground := Go.Ground.phase }, { on := 1, ground := Go.Ground.phase }, { on := 2, ground := Go.Ground.phase }, { on := 3, ground := Go.Ground.phase }, { on := 4, ground := Go.Ground.phase }, { on := 5, ground := Go.Ground.phase }, { on := 6, ground := Go.Ground.phase }, { on := 7, ground := Go.Ground.phase }, { on := 8, ground := Go.Ground.phase }, { on := 9, ground := Go.Ground.phase }, { on := 10, ground := Go.Ground.phase }, { on := 11, ground := Go.Ground.phase }, { on := 12, ground := Go.Ground.phase }, { on := 13, ground := Go.Ground.phase }, { on := 14, ground := Go.Ground.phase }, { on := 15, ground := Go.Ground.phase }], guard := none }) (v := ?v_5_16) rfl (by kernel_rfl) (by kernel_rfl) (by kernel_rfl) (fun _ _ _ h => h) (Or.inl ⟨by rfl, ?hy_5_16⟩) (by assumption) ?rest_5_16
    case hy_5_16 => (intro w hSw; (try dsimp only at hSw); go_simp; (try (with_reducible rfl)))
    (try simp only [Act.put, List.setIfInBounds_toArray, List.set_cons_succ, List.set_cons_zero])
    refine wpAnyH_done (by kernel_rfl) ?_ _
    (try dsimp only)
    repeat (first | go_values | go_skip | go_guarded | go_step | go_upon)
    have fin := hFin (by omega) (by omega) BEL.out U5.out R5.out R6.out #[.slice A ps.length c, .slice B rs.length d, .int .i64 z, .slice none 0 0]
    refine bodyPost_ret (results_cell_row_tmp rfl _ _ w.heap.size _ #[.slice A ps.length c, .slice B rs.length d, .int .i64 z, .slice none 0 0] (0, 0) _ rfl (setRow_heap w5 w.heap.size #[.slice none 0 0, .slice none 0 0, .int .i64 0, .slice none 0 0] _ _ (0, 0) V5) Tryz.underlying39 rfl (by kernel_rfl)) rfl ?_
    obtain rfl := HR.out
    exact ⟨⟨A, c, B, d, rfl, fin.2.1, fin.2.2⟩, fin.1⟩
end Go.Proofs.YtadnfekogmjieaaGreatDoor
