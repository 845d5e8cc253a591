/-
  Layer 51, the reference: begins. (Printed by gen_mt5.py.)
-/
import Derived.Test.YtadnfekogmjieaaGreatDoorFGS
import Derived.Test.YtadnfekogmjieaaGreatDoorFMR6
import Derived.Test.YtadnfekogmjieaaGreatDoorFMQ6
import Derived.Test.YtadnfekogmjieaaGreatDoorFTk
import Derived.Deep.Cut
import Derived.Deep.CutRange
import Derived.Deep.RegionHeld3
set_option linter.unusedVariables false
set_option linter.unusedSimpArgs false
namespace Go.Proofs.YtadnfekogmjieaaGreatDoor
open Go.RowKit
open Mc (Pl Mi Mf)
theorem at_anyB {F : World → Prop} {P : Program} {ops : Array Oper} {Q : Exit → Act → World → Prop} {md : Region.Mode} {S : World → Prop} {fuel : Nat} {listed : Array Bool} {a : Act} {Wx : World} (hf : F Wx) (h : ∀ w, F w → wpAnyH P md ops Q S fuel listed a w) : wpAnyH P md ops Q S fuel listed a Wx := h _ hf
theorem spa3 {W U : World} {g1 o1 g2 o2 : Nat} {va vb vc : Value} (b : Below W.heap.size W U) (h1 : g1 < W.heap.size) (h2 : g2 < W.heap.size) (f0 : W.cell? ⟨g1, o1, none⟩ = some va) (f1 : W.cell? ⟨g1, o1 + 1, none⟩ = some vb) (f2 : W.cell? ⟨g2, o2, none⟩ = some vc) : U.cell? ⟨g1, o1, none⟩ = some va ∧ U.cell? ⟨g1, o1 + 1, none⟩ = some vb ∧ U.cell? ⟨g2, o2, none⟩ = some vc := ⟨(b.cell (p := ⟨g1, o1, none⟩) h1).trans f0, (b.cell (p := ⟨g1, o1 + 1, none⟩) h1).trans f1, (b.cell (p := ⟨g2, o2, none⟩) h2).trans f2⟩
theorem wS64 {n : Nat} (h : n ≤ 2000) : wrap64 (n : Int) = (n : Int) := by unfold wrap64; omega
theorem wSi {n : Nat} (h : n ≤ 2000) : IntKind.i64.wrap (n : Int) = (n : Int) := by rw [IntKind.wrap_i64]; omega
namespace Mc
theorem tyR_len (w : W) : 2 * (tyR w).length ≤ w.length + 1 := by
  rcases w with _ | ⟨b, t⟩
  · show 2 * (tyR []).length ≤ 1
    rw [show tyR [] = [] from by decide +kernel]; simp
  · unfold tyR; split <;> simp
theorem typesGo_len (c : UInt8) (s : W) : ∀ cur : W, 2 * ((cutsGo c cur s).flatMap tyR).length ≤ cur.length + s.length + 1 := by
  induction s with
  | nil => intro cur; have := tyR_len cur; simp [cutsGo]; exact this
  | cons b s ih =>
    intro cur
    unfold cutsGo
    split
    · have h1 := ih []
      have h2 := tyR_len cur
      rw [List.flatMap_cons, List.length_append]
      simp only [List.length_cons, List.length_nil] at h1 ⊢; omega
    · have := ih (cur ++ [b])
      simp only [List.length_append, List.length_cons, List.length_nil] at this ⊢; omega
theorem typesR_len (s : W) : 2 * (typesR s).length ≤ s.length + 1 := by have := typesGo_len 32 s []; rw [List.length_nil, Nat.zero_add] at this; exact this
theorem head_ok {ps rs : List Int} {z : Int} (h1 : (Ty.right ps && Ty.right rs) = true) (h2 : index z = true) : head ps rs z = rhead ⟨ps, rs, z, []⟩ ∧ head ps rs z ≠ [] := by
  constructor
  · unfold head rhead; rw [if_pos (by rw [h1, h2]; rfl)]; rfl
  · unfold head; rw [if_pos (by rw [h1, h2]; rfl)]; simp
theorem head_no {ps rs : List Int} {z : Int} (h : (Ty.right ps && Ty.right rs) = false ∨ index z = false) : head ps rs z = [] := by
  unfold head
  rw [if_neg]
  rcases h with h | h <;> rw [h] <;> simp
end Mc
set_option maxHeartbeats 16000000 in
set_option maxRecDepth 100000 in
/-- begins. -/
theorem rbegins_any (s : Mc.W) (hs : s.length ≤ 2000) (w : World) :
    Calls Tryz.prog 51 #[.string ⟨s.toArray⟩] w fun e w' => HOut w.heap.size (Mc.rheadP s) e w' ∧ Below w.heap.size w w' := by
  have HS1 := Lib.hid (fun W => rsplit_any s 62 (by omega) W)
  have HS2 := Lib.hid (fun W => rsplit_any s 32 (by omega) W)
  obtain ⟨R, hR⟩ : ∃ x, Mc.rheadP s = x := ⟨_, rfl⟩
  rw [hR]
  unfold Mc.rheadP at hR
  have h1w := Mc.cuts_word 62 s
  have h2n : Mc.cuts 32 s ≠ [] := Mc.cutsGo_ne 32 s []
  have h2w := Mc.cuts_word 32 s
  have h2l := Mc.cuts_len 32 s
  obtain ⟨L1, hL1⟩ : ∃ x, Mc.cuts 62 s = x := ⟨_, rfl⟩
  obtain ⟨L2, hL2⟩ : ∃ x, Mc.cuts 32 s = x := ⟨_, rfl⟩
  rw [hL1] at h1w hR
  rw [hL2] at h2n h2w h2l hR
  simp only [hL1] at HS1
  simp only [hL2] at HS2
  clear hL1 hL2
  have HB0 := Lib.hid ((Below.refl w.heap.size w).alloc (Nat.le_refl _) (.cells #[.slice none 0 0, .slice none 0 0, .int .i64 0, .slice none 0 0] 39))
  have HV0 := Lib.hid (Var.new w #[.slice none 0 0, .slice none 0 0, .int .i64 0, .slice none 0 0] 39)
  have HR := Lib.hid hR
  have HW1 := Lib.hid h1w
  have HW2 := Lib.hid h2w
  have HN2 := Lib.hid h2n
  clear hR h1w h2w h2n
  go_enter Tryz.func51, Tryz.ntmps51
  go_upto_region 3 with (first
    | (go_at_call 50; refine (HS1.out _).mono ?_; clear HS1; rintro e w1 ⟨⟨A1, c1, rfl, hr1⟩, hb⟩; have v1 := var_keep HV0.out hb; have b1 := HB0.out.trans (hb.mono HB0.out.size); clear hb)
    | (go_at_call 50; refine (HS2.out _).mono ?_; rintro e w2 ⟨⟨A2, c2, rfl, hr2⟩, hb⟩))
  refine at_code (F := fun W => Hid (Below w.heap.size w W) ∧ Hid (Var W w.heap.size #[.slice none 0 0, .slice none 0 0, .int .i64 0, .slice none 0 0] 39) ∧ Hid (RdS W W.heap.size A1 1 encS L1) ∧ Hid (RdS W W.heap.size A2 1 encS L2)) ⟨Lib.hid (b1.trans (hb.mono b1.size)), Lib.hid (var_keep v1 hb), Lib.hid (hr1.on hb), Lib.hid hr2⟩ ?_
  clear b1 v1 hr1 hr2 hb HS2 HB0 HV0
  rintro W ⟨HB, HV, H1, H2⟩
  by_cases h2 : L1.length = 2
  case neg =>
    have x1 : ¬ ((L1.length : Int) = 2) := by omega
    have x2 : ((L1.length : Int) == 2) = false := by rw [beq_eq_false_iff_ne]; exact x1
    have HRR : Hid (R = ((([], []), 0), false)) := Lib.hid (by rw [← HR.out, if_neg h2])
    obtain ⟨⟨z0, z1, z2, z3⟩, y0, y1, y2, y3⟩ := cells4' HV.out
    have hlt := HV.out.lt
    clear HR H1 H2 h2
    go_upto_region 4 with fail
    clear x1 x2
    repeat (first | go_values | go_skip | go_guarded | go_step | go_upon)
    have hp4 := put4 HV.out (.slice none 0 0) (.slice none 0 0) (.int .i64 0) (.slice none 0 0)
    refine bodyPost_ret (results_cell_row_tmp rfl _ _ w.heap.size _ _ (0, 0) _ rfl hp4.1 Tryz.underlying39 rfl (by kernel_rfl)) rfl ?_
    rw [HRR.out]
    exact ⟨⟨none, 0, none, 0, rfl, RdT.nil_, RdT.nil_⟩, below_grown HB.out hp4.2 HB.out.size (Nat.le_refl _)⟩
  obtain ⟨a, b, rfl⟩ : ∃ a b, L1 = [a, b] := by
    match L1, h2 with
    | [a, b], _ => exact ⟨a, b, rfl⟩
  obtain ⟨n, hn⟩ : ∃ n, L2.length = n + 1 := ⟨L2.length - 1, by have := List.length_pos_iff.2 HN2.out; omega⟩
  have hnb : n ≤ 2000 := by omega
  clear h2l
  obtain ⟨g1, o1, rfl, hg1, k1⟩ := H1.out.get (i := 0) (by simp)
  obtain ⟨g1', o1', e1, -, k2⟩ := H1.out.get (i := 1) (by simp)
  cases e1
  obtain ⟨g2, o2, rfl, hg2, k3⟩ := H2.out.get (i := n) (by omega)
  have f0 := k1 0 _ rfl
  have f1 := k2 0 _ rfl
  have f2 := k3 0 _ rfl
  simp only [Nat.zero_mul, Nat.add_zero, Nat.mul_one, List.getElem_cons_zero, List.getElem_cons_succ] at f0 f1 f2
  have hlast : L2.getLastD [] = L2[n] := by
    rw [List.getLastD_eq_getLast?, List.getLast?_eq_getElem?, show L2.length - 1 = n by omega, List.getElem?_eq_getElem (by omega)]; rfl
  have hr := HR.out
  rw [if_pos (show [a, b].length = 2 from rfl), hlast] at hr
  simp only [List.headD_cons, List.tail_cons] at hr
  have wa := HW1.out a (by simp)
  have wb := HW1.out b (by simp)
  have wc_ := HW2.out L2[n] (List.getElem_mem _)
  obtain ⟨c, hc⟩ : ∃ c, L2[n] = c := ⟨_, rfl⟩
  rw [hc] at f2 hr wc_
  have la := Mc.typesR_len a
  have lb := Mc.typesR_len b
  have HT1 := Lib.hid (fun W => rtypes_any a (by omega) W)
  have HT2 := Lib.hid (fun W => rtypes_any b (by omega) W)
  have HNu := Lib.hid (fun W => rnumber_any c (by omega) W)
  obtain ⟨ps, hps⟩ : ∃ q, Mc.typesR a = q := ⟨_, rfl⟩
  obtain ⟨rs, hrs⟩ : ∃ q, Mc.typesR b = q := ⟨_, rfl⟩
  obtain ⟨fo, hfo⟩ : ∃ q, Mc.rnum c = q := ⟨_, rfl⟩
  rw [hps] at hr la
  rw [hrs] at hr lb
  rw [hfo] at hr
  simp only [hps] at HT1
  simp only [hrs] at HT2
  simp only [hfo] at HNu
  obtain ⟨sl, hsl⟩ : ∃ q, Mc.toI fo = q := ⟨_, rfl⟩
  have hcv : IntKind.i64.wrap fo = sl := hsl
  rw [hsl] at hr
  have HRR := Lib.hid hr
  have hpl : ps.length ≤ 1000 := by omega
  have hrl : rs.length ≤ 1000 := by omega
  have q2 : wrap64 (n : Int) = (n : Int) := wS64 hnb
  have q2' : IntKind.i64.wrap (n : Int) = (n : Int) := wSi hnb
  have q1 : IntKind.i64.wrap ((n : Int) + 1 - 1) = (n : Int) := by rw [Int.add_sub_cancel]; exact q2'
  have q3 : (n : Int) < (n : Int) + 1 := Int.lt_succ _
  have q4 : (0 : Int) ≤ (n : Int) := Int.natCast_nonneg _
  clear hr hsl hfo hps hrs hc hlast k1 k2 k3 HR HW1 HW2 HN2 wa wb wc_ la lb h2
  rw [hn]
  clear hn
  go_upto_region 5 with fail
  go_cut [6] from 14 (fun s6 wx => ∃ (Kx : Nat) (A1 : Option Addr) (c1 : Nat) (A2 : Option Addr) (c2 : Nat), s6 = .pointer (some ⟨Kx, 0, none⟩) ∧ w.heap.size < Kx ∧ Hid (Below w.heap.size w wx) ∧ Hid (Var wx w.heap.size #[.slice none 0 0, .slice none 0 0, .int .i64 0, .slice none 0 0] 39) ∧ Hid (Var wx Kx #[.slice A1 ps.length c1, .slice A2 rs.length c2, .int .i64 sl, .slice none 0 0] 39) ∧ Hid (RdZ wx (fun g => w.heap.size + 1 ≤ g) A1 ps) ∧ Hid (RdZ wx (fun g => w.heap.size + 1 ≤ g) A2 rs))
  case first =>
    have SS : (fun W' => W'.cell? ⟨g1, o1, none⟩ = some (.string ⟨a.toArray⟩) ∧ W'.cell? ⟨g1, o1 + 1, none⟩ = some (.string ⟨b.toArray⟩) ∧ W'.cell? ⟨g2, o2 + n, none⟩ = some (.string ⟨c.toArray⟩)) (World.drew W) := ⟨f0, f1, f2⟩
    (try dsimp only at SS)
    refine wp_region_held_drew (S := (fun W' => W'.cell? ⟨g1, o1, none⟩ = some (.string ⟨a.toArray⟩) ∧ W'.cell? ⟨g1, o1 + 1, none⟩ = some (.string ⟨b.toArray⟩) ∧ W'.cell? ⟨g2, o2 + n, none⟩ = some (.string ⟨c.toArray⟩))) (by kernel_rfl) ?_ (fun hHeld0 => ?_)
    · first | assumption | go_keep
    refine at_anyB (F := fun W => Hid (Below w.heap.size w W) ∧ Hid (Var W w.heap.size #[.slice none 0 0, .slice none 0 0, .int .i64 0, .slice none 0 0] 39) ∧ g1 < W.heap.size ∧ g2 < W.heap.size ∧ (fun W' => W'.cell? ⟨g1, o1, none⟩ = some (.string ⟨a.toArray⟩) ∧ W'.cell? ⟨g1, o1 + 1, none⟩ = some (.string ⟨b.toArray⟩) ∧ W'.cell? ⟨g2, o2 + n, none⟩ = some (.string ⟨c.toArray⟩)) W) ⟨Lib.hid (HB.out.trans ((below_drewN W 1).mono HB.out.size)), Lib.hid (var_keep HV.out (below_drewN W 1)), hg1, hg2, hHeld0⟩ ?_
    clear hHeld0 HB HV hg1 hg2 SS H1 H2
    rintro W0 ⟨HB, HV, hg1, hg2, hHeld0⟩
    (try dsimp only at hHeld0)
    obtain ⟨f0, f1, f2⟩ := id hHeld0
    have b0 := Below.refl W0.heap.size W0
    have ss0 := hHeld0
    have hW0 := HV.out.lt
    refine tk (i := 0) (oi := ⟨some 15, .move (.tmp 4), 116, "ref.go:458", #[], none⟩) rfl ?_; (try simp only [Act.put, List.setIfInBounds_toArray, List.set_cons_succ, List.set_cons_zero])
    refine tk (i := 1) (oi := ⟨some 16, .indexAddr 116 (.tmp 15) (.const (.int .i64 0)), 0, "ref.go:458", #[⟨0, .data⟩], none⟩) rfl ?_; (try simp only [Act.put, List.setIfInBounds_toArray, List.set_cons_succ, List.set_cons_zero])
    refine tk (i := 2) (oi := ⟨some 17, .load 9 (.tmp 16), 9, "ref.go:458", #[⟨1, .data⟩], none⟩) rfl ?_; (try simp only [Act.put, List.setIfInBounds_toArray, List.set_cons_succ, List.set_cons_zero])
    refine tk (i := 4) (oi := ⟨some 19, .move (.tmp 4), 116, "ref.go:458", #[], none⟩) rfl ?_; (try simp only [Act.put, List.setIfInBounds_toArray, List.set_cons_succ, List.set_cons_zero])
    refine tk (i := 5) (oi := ⟨some 20, .indexAddr 116 (.tmp 19) (.const (.int .i64 1)), 0, "ref.go:458", #[⟨4, .data⟩], none⟩) rfl ?_; (try simp only [Act.put, List.setIfInBounds_toArray, List.set_cons_succ, List.set_cons_zero])
    refine tk (i := 6) (oi := ⟨some 21, .load 9 (.tmp 20), 9, "ref.go:458", #[⟨5, .data⟩], none⟩) rfl ?_; (try simp only [Act.put, List.setIfInBounds_toArray, List.set_cons_succ, List.set_cons_zero])
    refine tk (i := 9) (oi := ⟨some 24, .move (.tmp 5), 116, "ref.go:458", #[], none⟩) rfl ?_; (try simp only [Act.put, List.setIfInBounds_toArray, List.set_cons_succ, List.set_cons_zero])
    refine tk (i := 10) (oi := ⟨some 25, .move (.tmp 5), 116, "ref.go:458", #[], none⟩) rfl ?_; (try simp only [Act.put, List.setIfInBounds_toArray, List.set_cons_succ, List.set_cons_zero])
    refine tk (i := 11) (oi := ⟨some 26, .call { callee := .builtin .len, args := #[.tmp 25], argTypes := #[116] }, 3, "ref.go:458", #[⟨10, .data⟩], none⟩) rfl ?_; (try simp only [Act.put, List.setIfInBounds_toArray, List.set_cons_succ, List.set_cons_zero])
    refine tk (i := 12) (oi := ⟨some 27, .binOp .sub 3 (.tmp 26) (.const (.int .i64 1)) 3, 3, "ref.go:458", #[⟨11, .data⟩], none⟩) rfl ?_; (try simp only [Act.put, List.setIfInBounds_toArray, List.set_cons_succ, List.set_cons_zero])
    refine tk (i := 13) (oi := ⟨some 28, .indexAddr 116 (.tmp 24) (.tmp 27), 0, "ref.go:458", #[⟨9, .data⟩, ⟨12, .data⟩], none⟩) rfl ?_; (try simp only [Act.put, List.setIfInBounds_toArray, List.set_cons_succ, List.set_cons_zero])
    refine tk (i := 14) (oi := ⟨some 29, .load 9 (.tmp 28), 9, "ref.go:458", #[⟨13, .data⟩], none⟩) rfl ?_; (try simp only [Act.put, List.setIfInBounds_toArray, List.set_cons_succ, List.set_cons_zero])
    refine wpAnyH_ready (rs := [3, 18]) (by kernel_rfl) (by simp) ?_
    refine (AllReadyH.cons (o := ⟨some 18, .call { callee := .value (.func 97), args := #[.tmp 17], argTypes := #[9] }, 34, "ref.go:458", #[⟨2, .data⟩], none⟩) rfl (fun K hK => ?_) (AllReadyH.cons (o := ⟨some 6, .alloc 39, 0, "ref.go:458", #[], none⟩) rfl (fun K hK => ?_) AllReadyH.nil))
    · skip
      go_simp
      (refine (HT1.out _).mono ?_; rintro e w3 ⟨⟨A3, c3, rfl, own3⟩, hb3⟩; have b1 := b0.trans (hb3.mono b0.size); have ra := (own_rdz own3).mono (S' := fun g => w.heap.size + 1 ≤ g) (fun g _ hg => (by have := b0.size; omega)); have ss1 := spa3 b1 hg1 hg2 f0 f1 f2)
      (try dsimp only)
      refine hK.out _ _ ?_ (fun hHeld1 => ?_)
      · first | trivial | ((try dsimp only); first | assumption | trivial | go_keep)
      clear hK K hHeld0
      (try simp only [Act.put, List.setIfInBounds_toArray, List.set_cons_succ, List.set_cons_zero])
      refine wpAnyH_ready (rs := [7, 18]) (by kernel_rfl) (by simp) ?_
      refine (AllReadyH.cons (o := ⟨some 22, .call { callee := .value (.func 97), args := #[.tmp 21], argTypes := #[9] }, 34, "ref.go:458", #[⟨6, .data⟩, ⟨3, .chain⟩], none⟩) rfl (fun K hK => ?_) (AllReadyH.cons (o := ⟨some 6, .alloc 39, 0, "ref.go:458", #[], none⟩) rfl (fun K hK => ?_) AllReadyH.nil))
      · skip
        go_simp
        (refine (HT2.out _).mono ?_; rintro e w7 ⟨⟨A7, c7, rfl, own7⟩, hb7⟩; have b2 := b1.trans (hb7.mono b1.size); have ra := ra.on hb7; have rb := (own_rdz own7).mono (S' := fun g => w.heap.size + 1 ≤ g) (fun g _ hg => (by have := b1.size; omega)); have ss2 := spa3 b2 hg1 hg2 f0 f1 f2)
        (try dsimp only)
        refine hK.out _ _ ?_ (fun hHeld2 => ?_)
        · first | trivial | ((try dsimp only); first | assumption | trivial | go_keep)
        clear hK K hHeld1
        (try simp only [Act.put, List.setIfInBounds_toArray, List.set_cons_succ, List.set_cons_zero])
        refine tk (i := 8) (oi := ⟨some 23, .build 36 #[(0, .tmp 18), (1, .tmp 22)], 36, "ref.go:458", #[⟨3, .data⟩, ⟨7, .data⟩], none⟩) rfl ?_; (try simp only [Act.put, List.setIfInBounds_toArray, List.set_cons_succ, List.set_cons_zero])
        refine wpAnyH_ready (rs := [15, 18]) (by kernel_rfl) (by simp) ?_
        refine (AllReadyH.cons (o := ⟨some 30, .call { callee := .value (.func 98), args := #[.tmp 29], argTypes := #[9] }, 56, "ref.go:458", #[⟨14, .data⟩, ⟨7, .chain⟩], none⟩) rfl (fun K hK => ?_) (AllReadyH.cons (o := ⟨some 6, .alloc 39, 0, "ref.go:458", #[], none⟩) rfl (fun K hK => ?_) AllReadyH.nil))
        · skip
          go_simp
          (refine (HNu.out _).mono ?_; rintro e w15 ⟨rfl, hb15⟩; have b3 := b2.trans (hb15.mono b2.size); have ra := ra.on hb15; have rb := rb.on hb15; have ss3 := spa3 b3 hg1 hg2 f0 f1 f2)
          (try dsimp only)
          refine hK.out _ _ ?_ (fun hHeld3 => ?_)
          · first | trivial | ((try dsimp only); first | assumption | trivial | go_keep)
          clear hK K hHeld2
          (try simp only [Act.put, List.setIfInBounds_toArray, List.set_cons_succ, List.set_cons_zero])
          refine tk (i := 16) (oi := ⟨some 31, .convert 56 3 (.tmp 30), 3, "ref.go:458", #[⟨15, .data⟩], none⟩) rfl ?_; (try simp only [Act.put, List.setIfInBounds_toArray, List.set_cons_succ, List.set_cons_zero])
          refine tk (i := 17) (oi := ⟨some 32, .build 39 #[(0, .tmp 23), (1, .tmp 31)], 39, "ref.go:458", #[⟨8, .data⟩, ⟨16, .data⟩], none⟩) rfl ?_; (try simp only [Act.put, List.setIfInBounds_toArray, List.set_cons_succ, List.set_cons_zero])
          refine wpAnyH_ready (rs := [18]) (by kernel_rfl) (by simp) ?_
          refine (AllReadyH.cons (o := ⟨some 6, .alloc 39, 0, "ref.go:458", #[], none⟩) rfl (fun K hK => ?_) AllReadyH.nil)
          go_simp
          (have hb18 := (Below.refl (w15).heap.size (w15)).alloc (Nat.le_refl _) (.cells #[.slice none 0 0, .slice none 0 0, .int .i64 0, .slice none 0 0] 39); have b4 := b3.trans (hb18.mono b3.size); have vx := Var.new (w15) #[.slice none 0 0, .slice none 0 0, .int .i64 0, .slice none 0 0] 39; have ra := (ra.mono (S' := fun g => w.heap.size + 1 ≤ g ∧ g ≠ (w15).heap.size) (fun g hg h => ⟨h, by omega⟩)).on hb18; have rb := (rb.mono (S' := fun g => w.heap.size + 1 ≤ g ∧ g ≠ (w15).heap.size) (fun g hg h => ⟨h, by omega⟩)).on hb18; have ss4 := spa3 b4 hg1 hg2 f0 f1 f2)
          (try dsimp only)
          refine hK.out _ _ ?_ (fun hHeld4 => ?_)
          · first | trivial | ((try dsimp only); first | assumption | trivial | go_keep)
          clear hK K hHeld3
          (try simp only [Act.put, List.setIfInBounds_toArray, List.set_cons_succ, List.set_cons_zero])
          refine wpAnyH_ready (rs := [19]) (by kernel_rfl) (by simp) ?_
          refine (AllReadyH.cons (o := ⟨none, .store 39 (.tmp 6) (.tmp 32), 0, "ref.go:458", #[⟨18, .data⟩, ⟨17, .data⟩, ⟨15, .chain⟩, ⟨0, .phase⟩, ⟨1, .phase⟩, ⟨2, .phase⟩, ⟨3, .phase⟩, ⟨4, .phase⟩, ⟨5, .phase⟩, ⟨6, .phase⟩, ⟨7, .phase⟩, ⟨8, .phase⟩, ⟨9, .phase⟩, ⟨10, .phase⟩, ⟨11, .phase⟩, ⟨12, .phase⟩, ⟨13, .phase⟩, ⟨14, .phase⟩, ⟨15, .phase⟩, ⟨16, .phase⟩, ⟨17, .phase⟩, ⟨18, .phase⟩], none⟩) rfl (fun K hK => ?_) AllReadyH.nil)
          (rw [if_pos (by rfl)]; refine wp_store_row 39 (.tmp 6) (.tmp 32) rfl (w15.heap.size) #[.slice A3 ps.length c3, .slice A7 rs.length c7, .int .i64 sl, .slice none 0 0] rfl rfl 39 #[.slice none 0 0, .slice none 0 0, .int .i64 0, .slice none 0 0] vx info_mfun rfl (by simp [Value.oneCell']) ?_; have gS := setRow_grown ((w15.alloc (.cells #[.slice none 0 0, .slice none 0 0, .int .i64 0, .slice none 0 0] 39))) (w15.heap.size) #[.slice A3 ps.length c3, .slice A7 rs.length c7, .int .i64 sl, .slice none 0 0]; have hkx := (show W0.heap.size ≤ w15.heap.size from b3.size); have ss9 : (fun W' => W'.cell? ⟨g1, o1, none⟩ = some (.string ⟨a.toArray⟩) ∧ W'.cell? ⟨g1, o1 + 1, none⟩ = some (.string ⟨b.toArray⟩) ∧ W'.cell? ⟨g2, o2 + n, none⟩ = some (.string ⟨c.toArray⟩)) (((w15.alloc (.cells #[.slice none 0 0, .slice none 0 0, .int .i64 0, .slice none 0 0] 39))).setRow (w15.heap.size) #[.slice A3 ps.length c3, .slice A7 rs.length c7, .int .i64 sl, .slice none 0 0]) := ⟨gS.cell ss4.1 (by intro e; injection e with e; dsimp only at e; omega), gS.cell ss4.2.1 (by intro e; injection e with e; dsimp only at e; omega), gS.cell ss4.2.2 (by intro e; injection e with e; dsimp only at e; omega)⟩; (try dsimp only at ss9))
          (try dsimp only)
          refine hK.out _ _ ?_ (fun hHeld5 => ?_)
          · first | trivial | ((try dsimp only); first | assumption | trivial | go_keep)
          clear hK K hHeld4
          (try simp only [Act.put, List.setIfInBounds_toArray, List.set_cons_succ, List.set_cons_zero])
          refine wpAnyH_done (by kernel_rfl) ?_ _
          (try dsimp only)
          repeat (first | go_values | go_skip | go_guarded | go_step | go_upon)
          go_meet
          refine ⟨w15.heap.size, A3, c3, A7, c7, rfl, by have := HV.out.lt; omega, Lib.hid (below_grown (HB.out.trans (b4.mono HB.out.size)) gS (HB.out.trans (b4.mono HB.out.size)).size (by have := HB.out.size; omega)), Lib.hid (var_stay (var_keep HV.out b4) gS (by have := HV.out.lt; omega)), Lib.hid (setRow_heapK _ _ _ _ _ vx), Lib.hid ((ra.keep (keep_grown gS (fun h => h.2 rfl)) gS.size).mono (fun _ _ h => h.1)), Lib.hid ((rb.keep (keep_grown gS (fun h => h.2 rfl)) gS.size).mono (fun _ _ h => h.1))⟩
        · skip
          go_simp
          (have hb18 := (Below.refl (w7).heap.size (w7)).alloc (Nat.le_refl _) (.cells #[.slice none 0 0, .slice none 0 0, .int .i64 0, .slice none 0 0] 39); have b3 := b2.trans (hb18.mono b2.size); have vx := Var.new (w7) #[.slice none 0 0, .slice none 0 0, .int .i64 0, .slice none 0 0] 39; have ra := (ra.mono (S' := fun g => w.heap.size + 1 ≤ g ∧ g ≠ (w7).heap.size) (fun g hg h => ⟨h, by omega⟩)).on hb18; have rb := (rb.mono (S' := fun g => w.heap.size + 1 ≤ g ∧ g ≠ (w7).heap.size) (fun g hg h => ⟨h, by omega⟩)).on hb18; have ss3 := spa3 b3 hg1 hg2 f0 f1 f2)
          (try dsimp only)
          refine hK.out _ _ ?_ (fun hHeld3 => ?_)
          · first | trivial | ((try dsimp only); first | assumption | trivial | go_keep)
          clear hK K hHeld2
          (try simp only [Act.put, List.setIfInBounds_toArray, List.set_cons_succ, List.set_cons_zero])
          refine wpAnyH_ready (rs := [15]) (by kernel_rfl) (by simp) ?_
          refine (AllReadyH.cons (o := ⟨some 30, .call { callee := .value (.func 98), args := #[.tmp 29], argTypes := #[9] }, 56, "ref.go:458", #[⟨14, .data⟩, ⟨7, .chain⟩], none⟩) rfl (fun K hK => ?_) AllReadyH.nil)
          go_simp
          (refine (HNu.out _).mono ?_; rintro e w15 ⟨rfl, hb15⟩; have b4 := b3.trans (hb15.mono b3.size); have vxl := vx.lt; have vx := var_keep vx hb15; have ra := ra.on hb15; have rb := rb.on hb15; have ss4 := spa3 b4 hg1 hg2 f0 f1 f2)
          (try dsimp only)
          refine hK.out _ _ ?_ (fun hHeld4 => ?_)
          · first | trivial | ((try dsimp only); first | assumption | trivial | go_keep)
          clear hK K hHeld3
          (try simp only [Act.put, List.setIfInBounds_toArray, List.set_cons_succ, List.set_cons_zero])
          refine tk (i := 16) (oi := ⟨some 31, .convert 56 3 (.tmp 30), 3, "ref.go:458", #[⟨15, .data⟩], none⟩) rfl ?_; (try simp only [Act.put, List.setIfInBounds_toArray, List.set_cons_succ, List.set_cons_zero])
          refine tk (i := 17) (oi := ⟨some 32, .build 39 #[(0, .tmp 23), (1, .tmp 31)], 39, "ref.go:458", #[⟨8, .data⟩, ⟨16, .data⟩], none⟩) rfl ?_; (try simp only [Act.put, List.setIfInBounds_toArray, List.set_cons_succ, List.set_cons_zero])
          refine wpAnyH_ready (rs := [19]) (by kernel_rfl) (by simp) ?_
          refine (AllReadyH.cons (o := ⟨none, .store 39 (.tmp 6) (.tmp 32), 0, "ref.go:458", #[⟨18, .data⟩, ⟨17, .data⟩, ⟨15, .chain⟩, ⟨0, .phase⟩, ⟨1, .phase⟩, ⟨2, .phase⟩, ⟨3, .phase⟩, ⟨4, .phase⟩, ⟨5, .phase⟩, ⟨6, .phase⟩, ⟨7, .phase⟩, ⟨8, .phase⟩, ⟨9, .phase⟩, ⟨10, .phase⟩, ⟨11, .phase⟩, ⟨12, .phase⟩, ⟨13, .phase⟩, ⟨14, .phase⟩, ⟨15, .phase⟩, ⟨16, .phase⟩, ⟨17, .phase⟩, ⟨18, .phase⟩], none⟩) rfl (fun K hK => ?_) AllReadyH.nil)
          (rw [if_pos (by rfl)]; refine wp_store_row 39 (.tmp 6) (.tmp 32) rfl (w7.heap.size) #[.slice A3 ps.length c3, .slice A7 rs.length c7, .int .i64 sl, .slice none 0 0] rfl rfl 39 #[.slice none 0 0, .slice none 0 0, .int .i64 0, .slice none 0 0] vx info_mfun rfl (by simp [Value.oneCell']) ?_; have gS := setRow_grown (w15) (w7.heap.size) #[.slice A3 ps.length c3, .slice A7 rs.length c7, .int .i64 sl, .slice none 0 0]; have hkx := (show W0.heap.size ≤ w7.heap.size from b2.size); have ss9 : (fun W' => W'.cell? ⟨g1, o1, none⟩ = some (.string ⟨a.toArray⟩) ∧ W'.cell? ⟨g1, o1 + 1, none⟩ = some (.string ⟨b.toArray⟩) ∧ W'.cell? ⟨g2, o2 + n, none⟩ = some (.string ⟨c.toArray⟩)) ((w15).setRow (w7.heap.size) #[.slice A3 ps.length c3, .slice A7 rs.length c7, .int .i64 sl, .slice none 0 0]) := ⟨gS.cell ss4.1 (by intro e; injection e with e; dsimp only at e; omega), gS.cell ss4.2.1 (by intro e; injection e with e; dsimp only at e; omega), gS.cell ss4.2.2 (by intro e; injection e with e; dsimp only at e; omega)⟩; (try dsimp only at ss9))
          (try dsimp only)
          refine hK.out _ _ ?_ (fun hHeld5 => ?_)
          · first | trivial | ((try dsimp only); first | assumption | trivial | go_keep)
          clear hK K hHeld4
          (try simp only [Act.put, List.setIfInBounds_toArray, List.set_cons_succ, List.set_cons_zero])
          refine wpAnyH_done (by kernel_rfl) ?_ _
          (try dsimp only)
          repeat (first | go_values | go_skip | go_guarded | go_step | go_upon)
          go_meet
          refine ⟨w7.heap.size, A3, c3, A7, c7, rfl, by have := HV.out.lt; omega, Lib.hid (below_grown (HB.out.trans (b4.mono HB.out.size)) gS (HB.out.trans (b4.mono HB.out.size)).size (by have := HB.out.size; omega)), Lib.hid (var_stay (var_keep HV.out b4) gS (by have := HV.out.lt; omega)), Lib.hid (setRow_heapK _ _ _ _ _ vx), Lib.hid ((ra.keep (keep_grown gS (fun h => h.2 rfl)) gS.size).mono (fun _ _ h => h.1)), Lib.hid ((rb.keep (keep_grown gS (fun h => h.2 rfl)) gS.size).mono (fun _ _ h => h.1))⟩
      · skip
        go_simp
        (have hb18 := (Below.refl (w3).heap.size (w3)).alloc (Nat.le_refl _) (.cells #[.slice none 0 0, .slice none 0 0, .int .i64 0, .slice none 0 0] 39); have b2 := b1.trans (hb18.mono b1.size); have vx := Var.new (w3) #[.slice none 0 0, .slice none 0 0, .int .i64 0, .slice none 0 0] 39; have ra := (ra.mono (S' := fun g => w.heap.size + 1 ≤ g ∧ g ≠ (w3).heap.size) (fun g hg h => ⟨h, by omega⟩)).on hb18; have ss2 := spa3 b2 hg1 hg2 f0 f1 f2)
        (try dsimp only)
        refine hK.out _ _ ?_ (fun hHeld2 => ?_)
        · first | trivial | ((try dsimp only); first | assumption | trivial | go_keep)
        clear hK K hHeld1
        (try simp only [Act.put, List.setIfInBounds_toArray, List.set_cons_succ, List.set_cons_zero])
        refine wpAnyH_ready (rs := [7]) (by kernel_rfl) (by simp) ?_
        refine (AllReadyH.cons (o := ⟨some 22, .call { callee := .value (.func 97), args := #[.tmp 21], argTypes := #[9] }, 34, "ref.go:458", #[⟨6, .data⟩, ⟨3, .chain⟩], none⟩) rfl (fun K hK => ?_) AllReadyH.nil)
        go_simp
        (refine (HT2.out _).mono ?_; rintro e w7 ⟨⟨A7, c7, rfl, own7⟩, hb7⟩; have b3 := b2.trans (hb7.mono b2.size); have vxl := vx.lt; have vx := var_keep vx hb7; have ra := ra.on hb7; have rb := (own_rdz own7).mono (S' := fun g => w.heap.size + 1 ≤ g ∧ g ≠ w3.heap.size) (fun g _ hg => ⟨by have := b2.size; omega, by have := vxl; omega⟩); have ss3 := spa3 b3 hg1 hg2 f0 f1 f2)
        (try dsimp only)
        refine hK.out _ _ ?_ (fun hHeld3 => ?_)
        · first | trivial | ((try dsimp only); first | assumption | trivial | go_keep)
        clear hK K hHeld2
        (try simp only [Act.put, List.setIfInBounds_toArray, List.set_cons_succ, List.set_cons_zero])
        refine tk (i := 8) (oi := ⟨some 23, .build 36 #[(0, .tmp 18), (1, .tmp 22)], 36, "ref.go:458", #[⟨3, .data⟩, ⟨7, .data⟩], none⟩) rfl ?_; (try simp only [Act.put, List.setIfInBounds_toArray, List.set_cons_succ, List.set_cons_zero])
        refine wpAnyH_ready (rs := [15]) (by kernel_rfl) (by simp) ?_
        refine (AllReadyH.cons (o := ⟨some 30, .call { callee := .value (.func 98), args := #[.tmp 29], argTypes := #[9] }, 56, "ref.go:458", #[⟨14, .data⟩, ⟨7, .chain⟩], none⟩) rfl (fun K hK => ?_) AllReadyH.nil)
        go_simp
        (refine (HNu.out _).mono ?_; rintro e w15 ⟨rfl, hb15⟩; have b4 := b3.trans (hb15.mono b3.size); have vxl := vx.lt; have vx := var_keep vx hb15; have ra := ra.on hb15; have rb := rb.on hb15; have ss4 := spa3 b4 hg1 hg2 f0 f1 f2)
        (try dsimp only)
        refine hK.out _ _ ?_ (fun hHeld4 => ?_)
        · first | trivial | ((try dsimp only); first | assumption | trivial | go_keep)
        clear hK K hHeld3
        (try simp only [Act.put, List.setIfInBounds_toArray, List.set_cons_succ, List.set_cons_zero])
        refine tk (i := 16) (oi := ⟨some 31, .convert 56 3 (.tmp 30), 3, "ref.go:458", #[⟨15, .data⟩], none⟩) rfl ?_; (try simp only [Act.put, List.setIfInBounds_toArray, List.set_cons_succ, List.set_cons_zero])
        refine tk (i := 17) (oi := ⟨some 32, .build 39 #[(0, .tmp 23), (1, .tmp 31)], 39, "ref.go:458", #[⟨8, .data⟩, ⟨16, .data⟩], none⟩) rfl ?_; (try simp only [Act.put, List.setIfInBounds_toArray, List.set_cons_succ, List.set_cons_zero])
        refine wpAnyH_ready (rs := [19]) (by kernel_rfl) (by simp) ?_
        refine (AllReadyH.cons (o := ⟨none, .store 39 (.tmp 6) (.tmp 32), 0, "ref.go:458", #[⟨18, .data⟩, ⟨17, .data⟩, ⟨15, .chain⟩, ⟨0, .phase⟩, ⟨1, .phase⟩, ⟨2, .phase⟩, ⟨3, .phase⟩, ⟨4, .phase⟩, ⟨5, .phase⟩, ⟨6, .phase⟩, ⟨7, .phase⟩, ⟨8, .phase⟩, ⟨9, .phase⟩, ⟨10, .phase⟩, ⟨11, .phase⟩, ⟨12, .phase⟩, ⟨13, .phase⟩, ⟨14, .phase⟩, ⟨15, .phase⟩, ⟨16, .phase⟩, ⟨17, .phase⟩, ⟨18, .phase⟩], none⟩) rfl (fun K hK => ?_) AllReadyH.nil)
        (rw [if_pos (by rfl)]; refine wp_store_row 39 (.tmp 6) (.tmp 32) rfl (w3.heap.size) #[.slice A3 ps.length c3, .slice A7 rs.length c7, .int .i64 sl, .slice none 0 0] rfl rfl 39 #[.slice none 0 0, .slice none 0 0, .int .i64 0, .slice none 0 0] vx info_mfun rfl (by simp [Value.oneCell']) ?_; have gS := setRow_grown (w15) (w3.heap.size) #[.slice A3 ps.length c3, .slice A7 rs.length c7, .int .i64 sl, .slice none 0 0]; have hkx := (show W0.heap.size ≤ w3.heap.size from b1.size); have ss9 : (fun W' => W'.cell? ⟨g1, o1, none⟩ = some (.string ⟨a.toArray⟩) ∧ W'.cell? ⟨g1, o1 + 1, none⟩ = some (.string ⟨b.toArray⟩) ∧ W'.cell? ⟨g2, o2 + n, none⟩ = some (.string ⟨c.toArray⟩)) ((w15).setRow (w3.heap.size) #[.slice A3 ps.length c3, .slice A7 rs.length c7, .int .i64 sl, .slice none 0 0]) := ⟨gS.cell ss4.1 (by intro e; injection e with e; dsimp only at e; omega), gS.cell ss4.2.1 (by intro e; injection e with e; dsimp only at e; omega), gS.cell ss4.2.2 (by intro e; injection e with e; dsimp only at e; omega)⟩; (try dsimp only at ss9))
        (try dsimp only)
        refine hK.out _ _ ?_ (fun hHeld5 => ?_)
        · first | trivial | ((try dsimp only); first | assumption | trivial | go_keep)
        clear hK K hHeld4
        (try simp only [Act.put, List.setIfInBounds_toArray, List.set_cons_succ, List.set_cons_zero])
        refine wpAnyH_done (by kernel_rfl) ?_ _
        (try dsimp only)
        repeat (first | go_values | go_skip | go_guarded | go_step | go_upon)
        go_meet
        refine ⟨w3.heap.size, A3, c3, A7, c7, rfl, by have := HV.out.lt; omega, Lib.hid (below_grown (HB.out.trans (b4.mono HB.out.size)) gS (HB.out.trans (b4.mono HB.out.size)).size (by have := HB.out.size; omega)), Lib.hid (var_stay (var_keep HV.out b4) gS (by have := HV.out.lt; omega)), Lib.hid (setRow_heapK _ _ _ _ _ vx), Lib.hid ((ra.keep (keep_grown gS (fun h => h.2 rfl)) gS.size).mono (fun _ _ h => h.1)), Lib.hid ((rb.keep (keep_grown gS (fun h => h.2 rfl)) gS.size).mono (fun _ _ h => h.1))⟩
    · skip
      go_simp
      (have hb18 := (Below.refl (W0).heap.size (W0)).alloc (Nat.le_refl _) (.cells #[.slice none 0 0, .slice none 0 0, .int .i64 0, .slice none 0 0] 39); have b1 := b0.trans (hb18.mono b0.size); have vx := Var.new (W0) #[.slice none 0 0, .slice none 0 0, .int .i64 0, .slice none 0 0] 39; have ss1 := spa3 b1 hg1 hg2 f0 f1 f2)
      (try dsimp only)
      refine hK.out _ _ ?_ (fun hHeld1 => ?_)
      · first | trivial | ((try dsimp only); first | assumption | trivial | go_keep)
      clear hK K hHeld0
      (try simp only [Act.put, List.setIfInBounds_toArray, List.set_cons_succ, List.set_cons_zero])
      refine wpAnyH_ready (rs := [3]) (by kernel_rfl) (by simp) ?_
      refine (AllReadyH.cons (o := ⟨some 18, .call { callee := .value (.func 97), args := #[.tmp 17], argTypes := #[9] }, 34, "ref.go:458", #[⟨2, .data⟩], none⟩) rfl (fun K hK => ?_) AllReadyH.nil)
      go_simp
      (refine (HT1.out _).mono ?_; rintro e w3 ⟨⟨A3, c3, rfl, own3⟩, hb3⟩; have b2 := b1.trans (hb3.mono b1.size); have vxl := vx.lt; have vx := var_keep vx hb3; have ra := (own_rdz own3).mono (S' := fun g => w.heap.size + 1 ≤ g ∧ g ≠ W0.heap.size) (fun g _ hg => ⟨by have := b1.size; omega, by have := vxl; omega⟩); have ss2 := spa3 b2 hg1 hg2 f0 f1 f2)
      (try dsimp only)
      refine hK.out _ _ ?_ (fun hHeld2 => ?_)
      · first | trivial | ((try dsimp only); first | assumption | trivial | go_keep)
      clear hK K hHeld1
      (try simp only [Act.put, List.setIfInBounds_toArray, List.set_cons_succ, List.set_cons_zero])
      refine wpAnyH_ready (rs := [7]) (by kernel_rfl) (by simp) ?_
      refine (AllReadyH.cons (o := ⟨some 22, .call { callee := .value (.func 97), args := #[.tmp 21], argTypes := #[9] }, 34, "ref.go:458", #[⟨6, .data⟩, ⟨3, .chain⟩], none⟩) rfl (fun K hK => ?_) AllReadyH.nil)
      go_simp
      (refine (HT2.out _).mono ?_; rintro e w7 ⟨⟨A7, c7, rfl, own7⟩, hb7⟩; have b3 := b2.trans (hb7.mono b2.size); have vxl := vx.lt; have vx := var_keep vx hb7; have ra := ra.on hb7; have rb := (own_rdz own7).mono (S' := fun g => w.heap.size + 1 ≤ g ∧ g ≠ W0.heap.size) (fun g _ hg => ⟨by have := b2.size; omega, by have := vxl; omega⟩); have ss3 := spa3 b3 hg1 hg2 f0 f1 f2)
      (try dsimp only)
      refine hK.out _ _ ?_ (fun hHeld3 => ?_)
      · first | trivial | ((try dsimp only); first | assumption | trivial | go_keep)
      clear hK K hHeld2
      (try simp only [Act.put, List.setIfInBounds_toArray, List.set_cons_succ, List.set_cons_zero])
      refine tk (i := 8) (oi := ⟨some 23, .build 36 #[(0, .tmp 18), (1, .tmp 22)], 36, "ref.go:458", #[⟨3, .data⟩, ⟨7, .data⟩], none⟩) rfl ?_; (try simp only [Act.put, List.setIfInBounds_toArray, List.set_cons_succ, List.set_cons_zero])
      refine wpAnyH_ready (rs := [15]) (by kernel_rfl) (by simp) ?_
      refine (AllReadyH.cons (o := ⟨some 30, .call { callee := .value (.func 98), args := #[.tmp 29], argTypes := #[9] }, 56, "ref.go:458", #[⟨14, .data⟩, ⟨7, .chain⟩], none⟩) rfl (fun K hK => ?_) AllReadyH.nil)
      go_simp
      (refine (HNu.out _).mono ?_; rintro e w15 ⟨rfl, hb15⟩; have b4 := b3.trans (hb15.mono b3.size); have vxl := vx.lt; have vx := var_keep vx hb15; have ra := ra.on hb15; have rb := rb.on hb15; have ss4 := spa3 b4 hg1 hg2 f0 f1 f2)
      (try dsimp only)
      refine hK.out _ _ ?_ (fun hHeld4 => ?_)
      · first | trivial | ((try dsimp only); first | assumption | trivial | go_keep)
      clear hK K hHeld3
      (try simp only [Act.put, List.setIfInBounds_toArray, List.set_cons_succ, List.set_cons_zero])
      refine tk (i := 16) (oi := ⟨some 31, .convert 56 3 (.tmp 30), 3, "ref.go:458", #[⟨15, .data⟩], none⟩) rfl ?_; (try simp only [Act.put, List.setIfInBounds_toArray, List.set_cons_succ, List.set_cons_zero])
      refine tk (i := 17) (oi := ⟨some 32, .build 39 #[(0, .tmp 23), (1, .tmp 31)], 39, "ref.go:458", #[⟨8, .data⟩, ⟨16, .data⟩], none⟩) rfl ?_; (try simp only [Act.put, List.setIfInBounds_toArray, List.set_cons_succ, List.set_cons_zero])
      refine wpAnyH_ready (rs := [19]) (by kernel_rfl) (by simp) ?_
      refine (AllReadyH.cons (o := ⟨none, .store 39 (.tmp 6) (.tmp 32), 0, "ref.go:458", #[⟨18, .data⟩, ⟨17, .data⟩, ⟨15, .chain⟩, ⟨0, .phase⟩, ⟨1, .phase⟩, ⟨2, .phase⟩, ⟨3, .phase⟩, ⟨4, .phase⟩, ⟨5, .phase⟩, ⟨6, .phase⟩, ⟨7, .phase⟩, ⟨8, .phase⟩, ⟨9, .phase⟩, ⟨10, .phase⟩, ⟨11, .phase⟩, ⟨12, .phase⟩, ⟨13, .phase⟩, ⟨14, .phase⟩, ⟨15, .phase⟩, ⟨16, .phase⟩, ⟨17, .phase⟩, ⟨18, .phase⟩], none⟩) rfl (fun K hK => ?_) AllReadyH.nil)
      (rw [if_pos (by rfl)]; refine wp_store_row 39 (.tmp 6) (.tmp 32) rfl (W0.heap.size) #[.slice A3 ps.length c3, .slice A7 rs.length c7, .int .i64 sl, .slice none 0 0] rfl rfl 39 #[.slice none 0 0, .slice none 0 0, .int .i64 0, .slice none 0 0] vx info_mfun rfl (by simp [Value.oneCell']) ?_; have gS := setRow_grown (w15) (W0.heap.size) #[.slice A3 ps.length c3, .slice A7 rs.length c7, .int .i64 sl, .slice none 0 0]; have hkx := (show W0.heap.size ≤ W0.heap.size from b0.size); have ss9 : (fun W' => W'.cell? ⟨g1, o1, none⟩ = some (.string ⟨a.toArray⟩) ∧ W'.cell? ⟨g1, o1 + 1, none⟩ = some (.string ⟨b.toArray⟩) ∧ W'.cell? ⟨g2, o2 + n, none⟩ = some (.string ⟨c.toArray⟩)) ((w15).setRow (W0.heap.size) #[.slice A3 ps.length c3, .slice A7 rs.length c7, .int .i64 sl, .slice none 0 0]) := ⟨gS.cell ss4.1 (by intro e; injection e with e; dsimp only at e; omega), gS.cell ss4.2.1 (by intro e; injection e with e; dsimp only at e; omega), gS.cell ss4.2.2 (by intro e; injection e with e; dsimp only at e; omega)⟩; (try dsimp only at ss9))
      (try dsimp only)
      refine hK.out _ _ ?_ (fun hHeld5 => ?_)
      · first | trivial | ((try dsimp only); first | assumption | trivial | go_keep)
      clear hK K hHeld4
      (try simp only [Act.put, List.setIfInBounds_toArray, List.set_cons_succ, List.set_cons_zero])
      refine wpAnyH_done (by kernel_rfl) ?_ _
      (try dsimp only)
      repeat (first | go_values | go_skip | go_guarded | go_step | go_upon)
      go_meet
      refine ⟨W0.heap.size, A3, c3, A7, c7, rfl, by have := HV.out.lt; omega, Lib.hid (below_grown (HB.out.trans (b4.mono HB.out.size)) gS (HB.out.trans (b4.mono HB.out.size)).size (by have := HB.out.size; omega)), Lib.hid (var_stay (var_keep HV.out b4) gS (by have := HV.out.lt; omega)), Lib.hid (setRow_heapK _ _ _ _ _ vx), Lib.hid ((ra.keep (keep_grown gS (fun h => h.2 rfl)) gS.size).mono (fun _ _ h => h.1)), Lib.hid ((rb.keep (keep_grown gS (fun h => h.2 rfl)) gS.size).mono (fun _ _ h => h.1))⟩
  case rest =>
  clear HB HV H1 H2 HT1 HT2 HNu f0 f1 f2
  obtain ⟨Kx, A3, c3, A4, c4, rfl, hKx, HB, HV, HX, R1, R2⟩ := hcut
  have HRt := Lib.hid (fun W' (hb : Below wc.heap.size wc W') => refRight_any A3 A4 c3 c4 ps rs W' (RdZ.on R1.out hb).rds.rdI (RdZ.on R2.out hb).rds.rdI hpl hrl)
  have HHd := Lib.hid (fun (hix : Mc.index sl = true) W' (hb : Below wc.heap.size wc W') => rhead_any ⟨ps, rs, sl, []⟩ hpl hrl hix (fun g => w.heap.size + 1 ≤ g) A3 c3 A4 c4 none 0 W' ⟨RdZ.on R1.out hb, RdZ.on R2.out hb, RdT.nil_⟩)
  have HN := Lib.hid (fun W' => rnatural_any sl W')
  unfold mfV at HHd
  simp only [List.length_nil] at HHd
  go_upto_region 6 with fail
  have b0 : Below wc.heap.size wc (World.drew wc) := below_drewN wc 1
  have VD : Var (World.drew wc) w.heap.size #[.slice none 0 0, .slice none 0 0, .int .i64 0, .slice none 0 0] 39 := HV.out
  have SS : (fun W' => W'.cell? ⟨Kx, 0, none⟩ = some (.slice A3 ps.length c3) ∧ W'.cell? ⟨Kx, 1, none⟩ = some (.slice A4 rs.length c4) ∧ W'.cell? ⟨Kx, 2, none⟩ = some (.int .i64 sl) ∧ W'.cell? ⟨Kx, 3, none⟩ = some (.slice none 0 0)) (World.drew wc) := ⟨HX.out.cells 0, HX.out.cells 1, HX.out.cells 2, HX.out.cells 3⟩
  (try dsimp only at SS)
  have hnk : ∀ {j : Nat}, some (Addr.mk Kx j none).block ≠ some w.heap.size := fun {j} e => by injection e with e; dsimp only at e; omega
  rcases hix : Mc.index sl with _ | _
  · rw [hix] at HN
    have HR2 := Lib.hid HRR.out.symm
    rw [Mc.head_no (.inr hix)] at HR2
    have HR2 : Hid ((((ps, rs), sl), false) = R) := Lib.hid (by rw [HR2.out]; cases s <;> rfl)
    refine wp_region_held_drew (S := (fun W' => W'.cell? ⟨Kx, 0, none⟩ = some (.slice A3 ps.length c3) ∧ W'.cell? ⟨Kx, 1, none⟩ = some (.slice A4 rs.length c4) ∧ W'.cell? ⟨Kx, 2, none⟩ = some (.int .i64 sl) ∧ W'.cell? ⟨Kx, 3, none⟩ = some (.slice none 0 0))) (by kernel_rfl) ?_ (fun hHeld0 => ?_)
    · first | assumption | go_keep
    refine tk (i := 0) (oi := ⟨some 33, .load 39 (.tmp 6), 39, "ref.go:459", #[], none⟩) rfl ?_; (try simp only [Act.put, List.setIfInBounds_toArray, List.set_cons_succ, List.set_cons_zero])
    refine tk (i := 1) (oi := ⟨some 34, .fieldAddr 39 (.tmp 6) 1, 0, "ref.go:459", #[], none⟩) rfl ?_; (try simp only [Act.put, List.setIfInBounds_toArray, List.set_cons_succ, List.set_cons_zero])
    refine tk (i := 2) (oi := ⟨some 35, .load 3 (.tmp 34), 3, "ref.go:459", #[⟨1, .data⟩], none⟩) rfl ?_; (try simp only [Act.put, List.setIfInBounds_toArray, List.set_cons_succ, List.set_cons_zero])
    refine wpAnyH_ready (rs := [3]) (by kernel_rfl) (by simp) ?_
    refine AllReadyH.cons (o := ⟨some 36, .call { callee := .value (.func 35), args := #[.tmp 35], argTypes := #[3] }, 4, "ref.go:459", #[⟨2, .data⟩], none⟩) rfl (fun K hK => ?_) AllReadyH.nil
    go_simp
    (refine (HN.out _).mono ?_; rintro e w3 ⟨rfl, rfl⟩)
    (try dsimp only)
    refine hK.out _ _ ?_ (fun hHeld1 => ?_)
    · first | trivial | ((try dsimp only); first | assumption | trivial | go_keep)
    clear hK K hHeld0
    (try simp only [Act.put, List.setIfInBounds_toArray, List.set_cons_succ, List.set_cons_zero])
    refine tk (i := 4) (oi := ⟨some 37, .move (.tmp 36), 4, "ref.go:459", #[⟨3, .data⟩, ⟨3, .chain⟩], none⟩) rfl ?_; (try simp only [Act.put, List.setIfInBounds_toArray, List.set_cons_succ, List.set_cons_zero])
    refine tkN (i := 5) (oi := ⟨some 38, .fieldAddr 39 (.tmp 6) 0, 0, "ref.go:459", #[⟨4, .guard⟩], some (4, true)⟩) rfl ?_; (try simp only [Act.put, List.setIfInBounds_toArray, List.set_cons_succ, List.set_cons_zero])
    refine tkN (i := 6) (oi := ⟨some 39, .load 36 (.tmp 38), 36, "ref.go:459", #[⟨5, .data⟩, ⟨4, .guard⟩], some (4, true)⟩) rfl ?_; (try simp only [Act.put, List.setIfInBounds_toArray, List.set_cons_succ, List.set_cons_zero])
    refine tkN (i := 7) (oi := ⟨some 40, .call { callee := .value (.func 29), args := #[.tmp 39], argTypes := #[36] }, 4, "ref.go:459", #[⟨6, .data⟩, ⟨4, .chain⟩, ⟨4, .guard⟩], some (4, true)⟩) rfl ?_; (try simp only [Act.put, List.setIfInBounds_toArray, List.set_cons_succ, List.set_cons_zero])
    refine tk (i := 8) (oi := ⟨some 41, .pick (.tmp 37) (.tmp 40) (.const (.bool false)), 4, "ref.go:459", #[⟨4, .data⟩, ⟨7, .data⟩], none⟩) rfl ?_; (try simp only [Act.put, List.setIfInBounds_toArray, List.set_cons_succ, List.set_cons_zero])
    refine tk (i := 9) (oi := ⟨some 42, .move (.tmp 41), 4, "ref.go:459", #[⟨8, .data⟩, ⟨7, .chain⟩], none⟩) rfl ?_; (try simp only [Act.put, List.setIfInBounds_toArray, List.set_cons_succ, List.set_cons_zero])
    refine tkN (i := 10) (oi := ⟨some 43, .load 39 (.tmp 6), 39, "ref.go:459", #[⟨9, .guard⟩], some (9, true)⟩) rfl ?_; (try simp only [Act.put, List.setIfInBounds_toArray, List.set_cons_succ, List.set_cons_zero])
    refine tkN (i := 11) (oi := ⟨some 44, .call { callee := .value (.func 36), args := #[.tmp 43], argTypes := #[39] }, 9, "ref.go:459", #[⟨10, .data⟩, ⟨9, .chain⟩, ⟨9, .guard⟩], some (9, true)⟩) rfl ?_; (try simp only [Act.put, List.setIfInBounds_toArray, List.set_cons_succ, List.set_cons_zero])
    refine tkN (i := 12) (oi := ⟨some 45, .move (.tmp 0), 9, "ref.go:459", #[⟨9, .guard⟩, { on := 15, ground := .gcOnly Go.Departure.lateStores }], some (9, true)⟩) rfl ?_; (try simp only [Act.put, List.setIfInBounds_toArray, List.set_cons_succ, List.set_cons_zero])
    refine tkN (i := 13) (oi := ⟨some 46, .binOp .eql 9 (.tmp 44) (.tmp 45) 9, 4, "ref.go:459", #[⟨11, .data⟩, ⟨12, .data⟩, ⟨9, .guard⟩, { on := 15, ground := .gcOnly Go.Departure.lateStores }], some (9, true)⟩) rfl ?_; (try simp only [Act.put, List.setIfInBounds_toArray, List.set_cons_succ, List.set_cons_zero])
    refine tk (i := 14) (oi := ⟨some 47, .pick (.tmp 42) (.tmp 46) (.const (.bool false)), 4, "ref.go:459", #[⟨9, .data⟩, ⟨13, .data⟩, { on := 15, ground := .gcOnly Go.Departure.lateStores }], none⟩) rfl ?_; (try simp only [Act.put, List.setIfInBounds_toArray, List.set_cons_succ, List.set_cons_zero])
    refine wpAnyH_ready (rs := [15]) (by kernel_rfl) (by simp) ?_
    refine AllReadyH.cons (o := ⟨none, .store 39 (.tmp 2) (.tmp 33), 0, "ref.go:459", #[⟨0, .data⟩, ⟨11, .chain⟩, ⟨0, .phase⟩, { on := 1, ground := .textOnly Go.Departure.lateStores }, { on := 2, ground := .textOnly Go.Departure.lateStores }, { on := 3, ground := .textOnly Go.Departure.lateStoresUnsure }, { on := 4, ground := .textOnly Go.Departure.lateStores }, { on := 5, ground := .textOnly Go.Departure.lateStores }, { on := 6, ground := .textOnly Go.Departure.lateStores }, { on := 7, ground := .textOnly Go.Departure.lateStoresUnsure }, { on := 8, ground := .textOnly Go.Departure.lateStores }, { on := 9, ground := .textOnly Go.Departure.lateStores }, { on := 10, ground := .textOnly Go.Departure.lateStores }, { on := 11, ground := .textOnly Go.Departure.lateStoresUnsure }, { on := 12, ground := .textOnly Go.Departure.lateStores }, { on := 13, ground := .textOnly Go.Departure.lateStores }, { on := 14, ground := .textOnly Go.Departure.lateStores }], none⟩) rfl (fun K hK => ?_) AllReadyH.nil
    (rw [if_pos (by rfl)]; refine wp_store_row 39 (.tmp 2) (.tmp 33) rfl w.heap.size #[.slice A3 ps.length c3, .slice A4 rs.length c4, .int .i64 sl, .slice none 0 0] rfl rfl 39 #[.slice none 0 0, .slice none 0 0, .int .i64 0, .slice none 0 0] VD info_mfun rfl (by simp [Value.oneCell']) ?_; have gS := setRow_grown ((World.drew wc)) w.heap.size #[.slice A3 ps.length c3, .slice A4 rs.length c4, .int .i64 sl, .slice none 0 0]; have ss9 : (fun W' => W'.cell? ⟨Kx, 0, none⟩ = some (.slice A3 ps.length c3) ∧ W'.cell? ⟨Kx, 1, none⟩ = some (.slice A4 rs.length c4) ∧ W'.cell? ⟨Kx, 2, none⟩ = some (.int .i64 sl) ∧ W'.cell? ⟨Kx, 3, none⟩ = some (.slice none 0 0)) (((World.drew wc)).setRow w.heap.size #[.slice A3 ps.length c3, .slice A4 rs.length c4, .int .i64 sl, .slice none 0 0]) := ⟨gS.cell SS.1 hnk, gS.cell SS.2.1 hnk, gS.cell SS.2.2.1 hnk, gS.cell SS.2.2.2 hnk⟩; (try dsimp only at ss9))
    (try dsimp only)
    refine hK.out _ _ ?_ (fun hHeld2 => ?_)
    · first | trivial | ((try dsimp only); first | assumption | trivial | go_keep)
    clear hK K hHeld1
    (try simp only [Act.put, List.setIfInBounds_toArray, List.set_cons_succ, List.set_cons_zero])
    refine tk (i := 16) (oi := ⟨some 3, .assign (.tmp 47), 4, "ref.go:459", #[⟨14, .data⟩, ⟨15, .chain⟩, ⟨0, .phase⟩, ⟨1, .phase⟩, ⟨2, .phase⟩, ⟨3, .phase⟩, ⟨4, .phase⟩, ⟨5, .phase⟩, ⟨6, .phase⟩, ⟨7, .phase⟩, ⟨8, .phase⟩, ⟨9, .phase⟩, ⟨10, .phase⟩, ⟨11, .phase⟩, ⟨12, .phase⟩, ⟨13, .phase⟩, ⟨14, .phase⟩, ⟨15, .phase⟩], none⟩) rfl ?_; (try simp only [Act.put, List.setIfInBounds_toArray, List.set_cons_succ, List.set_cons_zero])
    refine wpAnyH_done (by kernel_rfl) ?_ _
    (try dsimp only)
    repeat (first | go_values | go_skip | go_guarded | go_step | go_upon)
    have fin := hFin hKx HB.out.size HB.out b0 R1.out R2.out #[.slice A3 ps.length c3, .slice A4 rs.length c4, .int .i64 sl, .slice none 0 0]
    refine bodyPost_ret (results_cell_row_tmp rfl _ _ w.heap.size _ #[.slice A3 ps.length c3, .slice A4 rs.length c4, .int .i64 sl, .slice none 0 0] (0, 0) _ rfl (setRow_heap ((World.drew wc)) w.heap.size #[.slice none 0 0, .slice none 0 0, .int .i64 0, .slice none 0 0] _ _ (0, 0) VD) Tryz.underlying39 rfl (by kernel_rfl)) rfl ?_
    rw [← HR2.out]
    exact ⟨⟨A3, c3, A4, c4, rfl, fin.2.1, fin.2.2⟩, fin.1⟩
  rw [hix] at HN
  rcases hrt : (Ty.right ps && Ty.right rs) with _ | _
  · rw [hrt] at HRt
    have HR2 := Lib.hid HRR.out.symm
    rw [Mc.head_no (.inl hrt)] at HR2
    have HR2 : Hid ((((ps, rs), sl), false) = R) := Lib.hid (by rw [HR2.out]; cases s <;> rfl)
    refine wp_region_held_drew (S := (fun W' => W'.cell? ⟨Kx, 0, none⟩ = some (.slice A3 ps.length c3) ∧ W'.cell? ⟨Kx, 1, none⟩ = some (.slice A4 rs.length c4) ∧ W'.cell? ⟨Kx, 2, none⟩ = some (.int .i64 sl) ∧ W'.cell? ⟨Kx, 3, none⟩ = some (.slice none 0 0))) (by kernel_rfl) ?_ (fun hHeld0 => ?_)
    · first | assumption | go_keep
    refine tk (i := 0) (oi := ⟨some 33, .load 39 (.tmp 6), 39, "ref.go:459", #[], none⟩) rfl ?_; (try simp only [Act.put, List.setIfInBounds_toArray, List.set_cons_succ, List.set_cons_zero])
    refine tk (i := 1) (oi := ⟨some 34, .fieldAddr 39 (.tmp 6) 1, 0, "ref.go:459", #[], none⟩) rfl ?_; (try simp only [Act.put, List.setIfInBounds_toArray, List.set_cons_succ, List.set_cons_zero])
    refine tk (i := 2) (oi := ⟨some 35, .load 3 (.tmp 34), 3, "ref.go:459", #[⟨1, .data⟩], none⟩) rfl ?_; (try simp only [Act.put, List.setIfInBounds_toArray, List.set_cons_succ, List.set_cons_zero])
    refine wpAnyH_ready (rs := [3]) (by kernel_rfl) (by simp) ?_
    refine AllReadyH.cons (o := ⟨some 36, .call { callee := .value (.func 35), args := #[.tmp 35], argTypes := #[3] }, 4, "ref.go:459", #[⟨2, .data⟩], none⟩) rfl (fun K hK => ?_) AllReadyH.nil
    go_simp
    (refine (HN.out _).mono ?_; rintro e w3 ⟨rfl, rfl⟩)
    (try dsimp only)
    refine hK.out _ _ ?_ (fun hHeld1 => ?_)
    · first | trivial | ((try dsimp only); first | assumption | trivial | go_keep)
    clear hK K hHeld0
    (try simp only [Act.put, List.setIfInBounds_toArray, List.set_cons_succ, List.set_cons_zero])
    refine tk (i := 4) (oi := ⟨some 37, .move (.tmp 36), 4, "ref.go:459", #[⟨3, .data⟩, ⟨3, .chain⟩], none⟩) rfl ?_; (try simp only [Act.put, List.setIfInBounds_toArray, List.set_cons_succ, List.set_cons_zero])
    refine tk (i := 5) (oi := ⟨some 38, .fieldAddr 39 (.tmp 6) 0, 0, "ref.go:459", #[⟨4, .guard⟩], some (4, true)⟩) rfl ?_; (try simp only [Act.put, List.setIfInBounds_toArray, List.set_cons_succ, List.set_cons_zero])
    refine tk (i := 6) (oi := ⟨some 39, .load 36 (.tmp 38), 36, "ref.go:459", #[⟨5, .data⟩, ⟨4, .guard⟩], some (4, true)⟩) rfl ?_; (try simp only [Act.put, List.setIfInBounds_toArray, List.set_cons_succ, List.set_cons_zero])
    refine wpAnyH_ready (rs := [7]) (by kernel_rfl) (by simp) ?_
    refine AllReadyH.cons (o := ⟨some 40, .call { callee := .value (.func 29), args := #[.tmp 39], argTypes := #[36] }, 4, "ref.go:459", #[⟨6, .data⟩, ⟨4, .chain⟩, ⟨4, .guard⟩], some (4, true)⟩) rfl (fun K hK => ?_) AllReadyH.nil
    go_simp
    (refine (HRt.out _ b0).mono ?_; rintro e w7 ⟨rfl, hb7⟩; have b7 := b0.trans (hb7.mono b0.size); have x7 := var_keep HX.out b7; have v7 := var_keep HV.out b7; have ss7 : (fun W' => W'.cell? ⟨Kx, 0, none⟩ = some (.slice A3 ps.length c3) ∧ W'.cell? ⟨Kx, 1, none⟩ = some (.slice A4 rs.length c4) ∧ W'.cell? ⟨Kx, 2, none⟩ = some (.int .i64 sl) ∧ W'.cell? ⟨Kx, 3, none⟩ = some (.slice none 0 0)) (w7) := ⟨x7.cells 0, x7.cells 1, x7.cells 2, x7.cells 3⟩; (try dsimp only at ss7))
    (try dsimp only)
    refine hK.out _ _ ?_ (fun hHeld2 => ?_)
    · first | trivial | ((try dsimp only); first | assumption | trivial | go_keep)
    clear hK K hHeld1
    (try simp only [Act.put, List.setIfInBounds_toArray, List.set_cons_succ, List.set_cons_zero])
    refine tk (i := 8) (oi := ⟨some 41, .pick (.tmp 37) (.tmp 40) (.const (.bool false)), 4, "ref.go:459", #[⟨4, .data⟩, ⟨7, .data⟩], none⟩) rfl ?_; (try simp only [Act.put, List.setIfInBounds_toArray, List.set_cons_succ, List.set_cons_zero])
    refine tk (i := 9) (oi := ⟨some 42, .move (.tmp 41), 4, "ref.go:459", #[⟨8, .data⟩, ⟨7, .chain⟩], none⟩) rfl ?_; (try simp only [Act.put, List.setIfInBounds_toArray, List.set_cons_succ, List.set_cons_zero])
    refine tkN (i := 10) (oi := ⟨some 43, .load 39 (.tmp 6), 39, "ref.go:459", #[⟨9, .guard⟩], some (9, true)⟩) rfl ?_; (try simp only [Act.put, List.setIfInBounds_toArray, List.set_cons_succ, List.set_cons_zero])
    refine tkN (i := 11) (oi := ⟨some 44, .call { callee := .value (.func 36), args := #[.tmp 43], argTypes := #[39] }, 9, "ref.go:459", #[⟨10, .data⟩, ⟨9, .chain⟩, ⟨9, .guard⟩], some (9, true)⟩) rfl ?_; (try simp only [Act.put, List.setIfInBounds_toArray, List.set_cons_succ, List.set_cons_zero])
    refine tkN (i := 12) (oi := ⟨some 45, .move (.tmp 0), 9, "ref.go:459", #[⟨9, .guard⟩, { on := 15, ground := .gcOnly Go.Departure.lateStores }], some (9, true)⟩) rfl ?_; (try simp only [Act.put, List.setIfInBounds_toArray, List.set_cons_succ, List.set_cons_zero])
    refine tkN (i := 13) (oi := ⟨some 46, .binOp .eql 9 (.tmp 44) (.tmp 45) 9, 4, "ref.go:459", #[⟨11, .data⟩, ⟨12, .data⟩, ⟨9, .guard⟩, { on := 15, ground := .gcOnly Go.Departure.lateStores }], some (9, true)⟩) rfl ?_; (try simp only [Act.put, List.setIfInBounds_toArray, List.set_cons_succ, List.set_cons_zero])
    refine tk (i := 14) (oi := ⟨some 47, .pick (.tmp 42) (.tmp 46) (.const (.bool false)), 4, "ref.go:459", #[⟨9, .data⟩, ⟨13, .data⟩, { on := 15, ground := .gcOnly Go.Departure.lateStores }], none⟩) rfl ?_; (try simp only [Act.put, List.setIfInBounds_toArray, List.set_cons_succ, List.set_cons_zero])
    refine wpAnyH_ready (rs := [15]) (by kernel_rfl) (by simp) ?_
    refine AllReadyH.cons (o := ⟨none, .store 39 (.tmp 2) (.tmp 33), 0, "ref.go:459", #[⟨0, .data⟩, ⟨11, .chain⟩, ⟨0, .phase⟩, { on := 1, ground := .textOnly Go.Departure.lateStores }, { on := 2, ground := .textOnly Go.Departure.lateStores }, { on := 3, ground := .textOnly Go.Departure.lateStoresUnsure }, { on := 4, ground := .textOnly Go.Departure.lateStores }, { on := 5, ground := .textOnly Go.Departure.lateStores }, { on := 6, ground := .textOnly Go.Departure.lateStores }, { on := 7, ground := .textOnly Go.Departure.lateStoresUnsure }, { on := 8, ground := .textOnly Go.Departure.lateStores }, { on := 9, ground := .textOnly Go.Departure.lateStores }, { on := 10, ground := .textOnly Go.Departure.lateStores }, { on := 11, ground := .textOnly Go.Departure.lateStoresUnsure }, { on := 12, ground := .textOnly Go.Departure.lateStores }, { on := 13, ground := .textOnly Go.Departure.lateStores }, { on := 14, ground := .textOnly Go.Departure.lateStores }], none⟩) rfl (fun K hK => ?_) AllReadyH.nil
    (rw [if_pos (by rfl)]; refine wp_store_row 39 (.tmp 2) (.tmp 33) rfl w.heap.size #[.slice A3 ps.length c3, .slice A4 rs.length c4, .int .i64 sl, .slice none 0 0] rfl rfl 39 #[.slice none 0 0, .slice none 0 0, .int .i64 0, .slice none 0 0] v7 info_mfun rfl (by simp [Value.oneCell']) ?_; have gS := setRow_grown (w7) w.heap.size #[.slice A3 ps.length c3, .slice A4 rs.length c4, .int .i64 sl, .slice none 0 0]; have ss9 : (fun W' => W'.cell? ⟨Kx, 0, none⟩ = some (.slice A3 ps.length c3) ∧ W'.cell? ⟨Kx, 1, none⟩ = some (.slice A4 rs.length c4) ∧ W'.cell? ⟨Kx, 2, none⟩ = some (.int .i64 sl) ∧ W'.cell? ⟨Kx, 3, none⟩ = some (.slice none 0 0)) ((w7).setRow w.heap.size #[.slice A3 ps.length c3, .slice A4 rs.length c4, .int .i64 sl, .slice none 0 0]) := ⟨gS.cell ss7.1 hnk, gS.cell ss7.2.1 hnk, gS.cell ss7.2.2.1 hnk, gS.cell ss7.2.2.2 hnk⟩; (try dsimp only at ss9))
    (try dsimp only)
    refine hK.out _ _ ?_ (fun hHeld3 => ?_)
    · first | trivial | ((try dsimp only); first | assumption | trivial | go_keep)
    clear hK K hHeld2
    (try simp only [Act.put, List.setIfInBounds_toArray, List.set_cons_succ, List.set_cons_zero])
    refine tk (i := 16) (oi := ⟨some 3, .assign (.tmp 47), 4, "ref.go:459", #[⟨14, .data⟩, ⟨15, .chain⟩, ⟨0, .phase⟩, ⟨1, .phase⟩, ⟨2, .phase⟩, ⟨3, .phase⟩, ⟨4, .phase⟩, ⟨5, .phase⟩, ⟨6, .phase⟩, ⟨7, .phase⟩, ⟨8, .phase⟩, ⟨9, .phase⟩, ⟨10, .phase⟩, ⟨11, .phase⟩, ⟨12, .phase⟩, ⟨13, .phase⟩, ⟨14, .phase⟩, ⟨15, .phase⟩], none⟩) rfl ?_; (try simp only [Act.put, List.setIfInBounds_toArray, List.set_cons_succ, List.set_cons_zero])
    refine wpAnyH_done (by kernel_rfl) ?_ _
    (try dsimp only)
    repeat (first | go_values | go_skip | go_guarded | go_step | go_upon)
    have fin := hFin hKx HB.out.size HB.out b7 R1.out R2.out #[.slice A3 ps.length c3, .slice A4 rs.length c4, .int .i64 sl, .slice none 0 0]
    refine bodyPost_ret (results_cell_row_tmp rfl _ _ w.heap.size _ #[.slice A3 ps.length c3, .slice A4 rs.length c4, .int .i64 sl, .slice none 0 0] (0, 0) _ rfl (setRow_heap (w7) w.heap.size #[.slice none 0 0, .slice none 0 0, .int .i64 0, .slice none 0 0] _ _ (0, 0) v7) Tryz.underlying39 rfl (by kernel_rfl)) rfl ?_
    rw [← HR2.out]
    exact ⟨⟨A3, c3, A4, c4, rfl, fin.2.1, fin.2.2⟩, fin.1⟩
  rw [hrt] at HRt
  have HHt := Lib.hid (HHd.out hix)
  obtain ⟨he1, he2⟩ := Mc.head_ok hrt hix
  have hrr := HRR.out
  rw [he1] at hrr he2
  obtain ⟨hd, hhd⟩ : ∃ q, Mc.rhead ⟨ps, rs, sl, []⟩ = q := ⟨_, rfl⟩
  rw [hhd] at hrr he2 HHt
  have hbq := beq_bytes hd s
  obtain ⟨eq, heq⟩ : ∃ b, (hd == s) = b := ⟨_, rfl⟩
  have heq2 : decide (hd = s) = eq := by rw [← heq, Bool.eq_iff_iff]; simp
  rw [heq2] at hbq
  have HR2 : Hid ((((ps, rs), sl), eq) = R) := Lib.hid (by
    rw [← hrr, heq]
    congr 1
    rcases eq with _ | _
    · rfl
    · have : hd = s := by simpa using heq
      rw [← this]
      have : (hd == []) = false := by simpa using he2
      rw [this]; rfl)
  clear hrr he1 he2 hhd heq2 HRR
  refine wp_region_held_drew (S := (fun W' => W'.cell? ⟨Kx, 0, none⟩ = some (.slice A3 ps.length c3) ∧ W'.cell? ⟨Kx, 1, none⟩ = some (.slice A4 rs.length c4) ∧ W'.cell? ⟨Kx, 2, none⟩ = some (.int .i64 sl) ∧ W'.cell? ⟨Kx, 3, none⟩ = some (.slice none 0 0))) (by kernel_rfl) ?_ (fun hHeld0 => ?_)
  · first | assumption | go_keep
  refine tk (i := 0) (oi := ⟨some 33, .load 39 (.tmp 6), 39, "ref.go:459", #[], none⟩) rfl ?_; (try simp only [Act.put, List.setIfInBounds_toArray, List.set_cons_succ, List.set_cons_zero])
  refine tk (i := 1) (oi := ⟨some 34, .fieldAddr 39 (.tmp 6) 1, 0, "ref.go:459", #[], none⟩) rfl ?_; (try simp only [Act.put, List.setIfInBounds_toArray, List.set_cons_succ, List.set_cons_zero])
  refine tk (i := 2) (oi := ⟨some 35, .load 3 (.tmp 34), 3, "ref.go:459", #[⟨1, .data⟩], none⟩) rfl ?_; (try simp only [Act.put, List.setIfInBounds_toArray, List.set_cons_succ, List.set_cons_zero])
  refine wpAnyH_ready (rs := [3]) (by kernel_rfl) (by simp) ?_
  refine AllReadyH.cons (o := ⟨some 36, .call { callee := .value (.func 35), args := #[.tmp 35], argTypes := #[3] }, 4, "ref.go:459", #[⟨2, .data⟩], none⟩) rfl (fun K hK => ?_) AllReadyH.nil
  go_simp
  (refine (HN.out _).mono ?_; rintro e w3 ⟨rfl, rfl⟩)
  (try dsimp only)
  refine hK.out _ _ ?_ (fun hHeld1 => ?_)
  · first | trivial | ((try dsimp only); first | assumption | trivial | go_keep)
  clear hK K hHeld0
  (try simp only [Act.put, List.setIfInBounds_toArray, List.set_cons_succ, List.set_cons_zero])
  refine tk (i := 4) (oi := ⟨some 37, .move (.tmp 36), 4, "ref.go:459", #[⟨3, .data⟩, ⟨3, .chain⟩], none⟩) rfl ?_; (try simp only [Act.put, List.setIfInBounds_toArray, List.set_cons_succ, List.set_cons_zero])
  refine tk (i := 5) (oi := ⟨some 38, .fieldAddr 39 (.tmp 6) 0, 0, "ref.go:459", #[⟨4, .guard⟩], some (4, true)⟩) rfl ?_; (try simp only [Act.put, List.setIfInBounds_toArray, List.set_cons_succ, List.set_cons_zero])
  refine tk (i := 6) (oi := ⟨some 39, .load 36 (.tmp 38), 36, "ref.go:459", #[⟨5, .data⟩, ⟨4, .guard⟩], some (4, true)⟩) rfl ?_; (try simp only [Act.put, List.setIfInBounds_toArray, List.set_cons_succ, List.set_cons_zero])
  refine wpAnyH_ready (rs := [7]) (by kernel_rfl) (by simp) ?_
  refine AllReadyH.cons (o := ⟨some 40, .call { callee := .value (.func 29), args := #[.tmp 39], argTypes := #[36] }, 4, "ref.go:459", #[⟨6, .data⟩, ⟨4, .chain⟩, ⟨4, .guard⟩], some (4, true)⟩) rfl (fun K hK => ?_) AllReadyH.nil
  go_simp
  (refine (HRt.out _ b0).mono ?_; rintro e w7 ⟨rfl, hb7⟩; have b7 := b0.trans (hb7.mono b0.size); have x7 := var_keep HX.out b7; have v7 := var_keep HV.out b7; have ss7 : (fun W' => W'.cell? ⟨Kx, 0, none⟩ = some (.slice A3 ps.length c3) ∧ W'.cell? ⟨Kx, 1, none⟩ = some (.slice A4 rs.length c4) ∧ W'.cell? ⟨Kx, 2, none⟩ = some (.int .i64 sl) ∧ W'.cell? ⟨Kx, 3, none⟩ = some (.slice none 0 0)) (w7) := ⟨x7.cells 0, x7.cells 1, x7.cells 2, x7.cells 3⟩; (try dsimp only at ss7))
  (try dsimp only)
  refine hK.out _ _ ?_ (fun hHeld2 => ?_)
  · first | trivial | ((try dsimp only); first | assumption | trivial | go_keep)
  clear hK K hHeld1
  (try simp only [Act.put, List.setIfInBounds_toArray, List.set_cons_succ, List.set_cons_zero])
  refine tk (i := 8) (oi := ⟨some 41, .pick (.tmp 37) (.tmp 40) (.const (.bool false)), 4, "ref.go:459", #[⟨4, .data⟩, ⟨7, .data⟩], none⟩) rfl ?_; (try simp only [Act.put, List.setIfInBounds_toArray, List.set_cons_succ, List.set_cons_zero])
  refine tk (i := 9) (oi := ⟨some 42, .move (.tmp 41), 4, "ref.go:459", #[⟨8, .data⟩, ⟨7, .chain⟩], none⟩) rfl ?_; (try simp only [Act.put, List.setIfInBounds_toArray, List.set_cons_succ, List.set_cons_zero])
  refine tk (i := 10) (oi := ⟨some 43, .load 39 (.tmp 6), 39, "ref.go:459", #[⟨9, .guard⟩], some (9, true)⟩) rfl ?_; (try simp only [Act.put, List.setIfInBounds_toArray, List.set_cons_succ, List.set_cons_zero])
  refine tk (i := 12) (oi := ⟨some 45, .move (.tmp 0), 9, "ref.go:459", #[⟨9, .guard⟩, { on := 15, ground := .gcOnly Go.Departure.lateStores }], some (9, true)⟩) rfl ?_; (try simp only [Act.put, List.setIfInBounds_toArray, List.set_cons_succ, List.set_cons_zero])
  refine wpAnyH_ready (rs := [11]) (by kernel_rfl) (by simp) ?_
  refine AllReadyH.cons (o := ⟨some 44, .call { callee := .value (.func 36), args := #[.tmp 43], argTypes := #[39] }, 9, "ref.go:459", #[⟨10, .data⟩, ⟨9, .chain⟩, ⟨9, .guard⟩], some (9, true)⟩) rfl (fun K hK => ?_) AllReadyH.nil
  go_simp
  (refine (HHt.out _ b7).mono ?_; rintro e w11 ⟨rfl, hb11⟩; have b11 := b7.trans (hb11.mono b7.size); have x11 := var_keep HX.out b11; have v11 := var_keep HV.out b11; have ss11 : (fun W' => W'.cell? ⟨Kx, 0, none⟩ = some (.slice A3 ps.length c3) ∧ W'.cell? ⟨Kx, 1, none⟩ = some (.slice A4 rs.length c4) ∧ W'.cell? ⟨Kx, 2, none⟩ = some (.int .i64 sl) ∧ W'.cell? ⟨Kx, 3, none⟩ = some (.slice none 0 0)) (w11) := ⟨x11.cells 0, x11.cells 1, x11.cells 2, x11.cells 3⟩; (try dsimp only at ss11))
  (try dsimp only)
  refine hK.out _ _ ?_ (fun hHeld3 => ?_)
  · first | trivial | ((try dsimp only); first | assumption | trivial | go_keep)
  clear hK K hHeld2
  (try simp only [Act.put, List.setIfInBounds_toArray, List.set_cons_succ, List.set_cons_zero])
  refine tk (i := 13) (oi := ⟨some 46, .binOp .eql 9 (.tmp 44) (.tmp 45) 9, 4, "ref.go:459", #[⟨11, .data⟩, ⟨12, .data⟩, ⟨9, .guard⟩, { on := 15, ground := .gcOnly Go.Departure.lateStores }], some (9, true)⟩) rfl ?_; (try simp only [Act.put, List.setIfInBounds_toArray, List.set_cons_succ, List.set_cons_zero])
  refine tk (i := 14) (oi := ⟨some 47, .pick (.tmp 42) (.tmp 46) (.const (.bool false)), 4, "ref.go:459", #[⟨9, .data⟩, ⟨13, .data⟩, { on := 15, ground := .gcOnly Go.Departure.lateStores }], none⟩) rfl ?_; (try simp only [Act.put, List.setIfInBounds_toArray, List.set_cons_succ, List.set_cons_zero])
  refine wpAnyH_ready (rs := [15]) (by kernel_rfl) (by simp) ?_
  refine AllReadyH.cons (o := ⟨none, .store 39 (.tmp 2) (.tmp 33), 0, "ref.go:459", #[⟨0, .data⟩, ⟨11, .chain⟩, ⟨0, .phase⟩, { on := 1, ground := .textOnly Go.Departure.lateStores }, { on := 2, ground := .textOnly Go.Departure.lateStores }, { on := 3, ground := .textOnly Go.Departure.lateStoresUnsure }, { on := 4, ground := .textOnly Go.Departure.lateStores }, { on := 5, ground := .textOnly Go.Departure.lateStores }, { on := 6, ground := .textOnly Go.Departure.lateStores }, { on := 7, ground := .textOnly Go.Departure.lateStoresUnsure }, { on := 8, ground := .textOnly Go.Departure.lateStores }, { on := 9, ground := .textOnly Go.Departure.lateStores }, { on := 10, ground := .textOnly Go.Departure.lateStores }, { on := 11, ground := .textOnly Go.Departure.lateStoresUnsure }, { on := 12, ground := .textOnly Go.Departure.lateStores }, { on := 13, ground := .textOnly Go.Departure.lateStores }, { on := 14, ground := .textOnly Go.Departure.lateStores }], none⟩) rfl (fun K hK => ?_) AllReadyH.nil
  (rw [if_pos (by rfl)]; refine wp_store_row 39 (.tmp 2) (.tmp 33) rfl w.heap.size #[.slice A3 ps.length c3, .slice A4 rs.length c4, .int .i64 sl, .slice none 0 0] rfl rfl 39 #[.slice none 0 0, .slice none 0 0, .int .i64 0, .slice none 0 0] v11 info_mfun rfl (by simp [Value.oneCell']) ?_; have gS := setRow_grown (w11) w.heap.size #[.slice A3 ps.length c3, .slice A4 rs.length c4, .int .i64 sl, .slice none 0 0]; have ss9 : (fun W' => W'.cell? ⟨Kx, 0, none⟩ = some (.slice A3 ps.length c3) ∧ W'.cell? ⟨Kx, 1, none⟩ = some (.slice A4 rs.length c4) ∧ W'.cell? ⟨Kx, 2, none⟩ = some (.int .i64 sl) ∧ W'.cell? ⟨Kx, 3, none⟩ = some (.slice none 0 0)) ((w11).setRow w.heap.size #[.slice A3 ps.length c3, .slice A4 rs.length c4, .int .i64 sl, .slice none 0 0]) := ⟨gS.cell ss11.1 hnk, gS.cell ss11.2.1 hnk, gS.cell ss11.2.2.1 hnk, gS.cell ss11.2.2.2 hnk⟩; (try dsimp only at ss9))
  (try dsimp only)
  refine hK.out _ _ ?_ (fun hHeld4 => ?_)
  · first | trivial | ((try dsimp only); first | assumption | trivial | go_keep)
  clear hK K hHeld3
  (try simp only [Act.put, List.setIfInBounds_toArray, List.set_cons_succ, List.set_cons_zero])
  refine tk (i := 16) (oi := ⟨some 3, .assign (.tmp 47), 4, "ref.go:459", #[⟨14, .data⟩, ⟨15, .chain⟩, ⟨0, .phase⟩, ⟨1, .phase⟩, ⟨2, .phase⟩, ⟨3, .phase⟩, ⟨4, .phase⟩, ⟨5, .phase⟩, ⟨6, .phase⟩, ⟨7, .phase⟩, ⟨8, .phase⟩, ⟨9, .phase⟩, ⟨10, .phase⟩, ⟨11, .phase⟩, ⟨12, .phase⟩, ⟨13, .phase⟩, ⟨14, .phase⟩, ⟨15, .phase⟩], none⟩) rfl ?_; (try simp only [Act.put, List.setIfInBounds_toArray, List.set_cons_succ, List.set_cons_zero])
  refine wpAnyH_done (by kernel_rfl) ?_ _
  (try dsimp only)
  repeat (first | go_values | go_skip | go_guarded | go_step | go_upon)
  have fin := hFin hKx HB.out.size HB.out b11 R1.out R2.out #[.slice A3 ps.length c3, .slice A4 rs.length c4, .int .i64 sl, .slice none 0 0]
  refine bodyPost_ret (results_cell_row_tmp rfl _ _ w.heap.size _ #[.slice A3 ps.length c3, .slice A4 rs.length c4, .int .i64 sl, .slice none 0 0] (0, 0) _ rfl (setRow_heap (w11) w.heap.size #[.slice none 0 0, .slice none 0 0, .int .i64 0, .slice none 0 0] _ _ (0, 0) v11) Tryz.underlying39 rfl (by kernel_rfl)) rfl ?_
  rw [← HR2.out]
  exact ⟨⟨A3, c3, A4, c4, rfl, fin.2.1, fin.2.2⟩, fin.1⟩
end Go.Proofs.YtadnfekogmjieaaGreatDoor
