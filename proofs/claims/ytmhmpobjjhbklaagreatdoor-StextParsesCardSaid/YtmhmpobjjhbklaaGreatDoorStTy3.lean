/-
  The reference's comparison of function types. (Put together by gen_stty.py.)
-/
import Derived.Test.YtmhmpobjjhbklaaGreatDoorStTy2
import Derived.Deep.QuietTactic
import Derived.BigQuiet
set_option linter.unusedVariables false
namespace Go.Proofs.YtmhmpobjjhbklaaGreatDoor
open Go.RowKit

theorem drop_eq_cons {l : List Int} {k : Nat} {t : Int} (h : k < l.length) (ht : l[k] = t) : l.drop k = t :: l.drop (k + 1) := by rw [List.drop_eq_getElem_cons h, ht]

theorem two_rdi {w : World} {A : Option Addr} {vs : List Int} (h : RdI w w.heap.size A vs) (o o' : Obj) : RdI ((w.alloc o).alloc o') w.heap.size A vs :=
  (h.alloc (Nat.le_refl _) o).alloc (by simp) o'


set_option maxHeartbeats 2000000 in
set_option maxRecDepth 100000 in
theorem refSameVals_any (A B : Option Addr) (c d : Nat) (xs ys : List Int) (w : World) (N : Nat) (ha : RdI w N A xs) (hb : RdI w N B ys) (hl : xs.length ≤ 1000000) :
    Calls Tryz.prog 37 #[.slice A xs.length c, .slice B ys.length d] w fun e w' => e = .returned (.bool (decide (xs = ys))) ∧ ∃ q, w' = w.drewN q := by
  by_cases h : xs.length = ys.length
  · obtain ⟨n, hn⟩ : ∃ n, ys.length = n := ⟨_, rfl⟩
    rw [h, hn]
    have han : xs.length = n := h.trans hn
    go_enter Tryz.func37, Tryz.ntmps37
    go_wp2
    go_loopw [5] (fun i wr => ∃ (k q : Nat), k ≤ n ∧ i = .int .i64 k ∧ wr = w.drewN q ∧ Hid (decide (xs = ys) = decide (xs.drop k = ys.drop k))) (fun i _ => n - (intOf i).toNat)
    case atStart => exact ⟨0, 0, by omega, rfl, rfl, by simp [Hid]⟩
    case round =>
      obtain ⟨k, q, hk, rfl, rfl, HR⟩ := hrel
      by_cases hkl : k < n
      · obtain ⟨ad, rfl, _, hcell⟩ := ha.at_ (show k < xs.length by omega)
        obtain ⟨bd, rfl, _, hcelb⟩ := hb.at_ (show k < ys.length by omega)
        obtain ⟨t, ht⟩ : ∃ t, xs[k] = t := ⟨_, rfl⟩
        obtain ⟨u, hu⟩ : ∃ u, ys[k] = u := ⟨_, rfl⟩
        rw [ht] at hcell
        rw [hu] at hcelb
        have hd := drop_eq_cons (by omega) ht
        have hd' := drop_eq_cons (by omega) hu
        have hk0 : (0 : Int) ≤ (k : Int) := Int.natCast_nonneg _
        have hk1 : (k : Int) < (n : Int) := by omega
        rcases hv : (t == u) with _ | _
        · have hf : Hid (decide (xs = ys) = false) := by
            unfold Hid
            rw [HR.out, hd, hd']
            simp at hv ⊢
            intro e; exact absurd e hv
          clear ht hu hd hd'
          go_wp2_with fail
          go_quiet (fail)
          go_wp2
          go_ret
          exact ⟨by rw [hf.out]; rfl, _, by first | rfl | rw [World.drewN_drewN]⟩
        · have hf : Hid (decide (xs = ys) = decide (xs.drop (k + 1) = ys.drop (k + 1))) := by
            unfold Hid
            rw [HR.out, hd, hd']
            simp at hv
            simp [hv]
          clear ht hu hd hd'
          go_wp2_with fail
          go_quiet (fail)
          go_wp2
          go_roundw
          case rel => exact ⟨k + 1, _, by omega, by go_num, by first | rfl | rw [World.drewN_drewN], hf⟩
          case measure => simp [intOf]; omega
      · have hf : Hid (decide (xs = ys) = true) := by unfold Hid; rw [HR.out, List.drop_of_length_le (by omega), List.drop_of_length_le (by omega)]; simp
        go_wp2
        go_ret
        exact ⟨by rw [hf.out]; rfl, _, rfl⟩
  · have hf : Hid (decide (xs = ys) = false) := by unfold Hid; simp; intro e; exact h (by rw [e])
    have g1 : ((xs.length : Int) == (ys.length : Int)) = false := by simp; omega
    go_enter Tryz.func37, Tryz.ntmps37
    go_wp2
    go_ret
    exact ⟨by rw [hf.out]; rfl, 0, rfl⟩
theorem below_drewN_ {B : Nat} {w W : World} (h : Below B w W) (q : Nat) : Below B w (W.drewN q) := ⟨h.os, h.tape, h.output, h.size, h.block⟩

theorem RdI.drewN {w : World} {B : Nat} {A : Option Addr} {vs : List Int} (h : RdI w B A vs) (q : Nat) : RdI (w.drewN q) B A vs := h.below (below_drewN_ (Below.refl _ _) q)

set_option maxHeartbeats 1000000 in
set_option maxRecDepth 100000 in
theorem refSame_any (A1 A2 B1 B2 : Option Addr) (c1 c2 d1 d2 : Nat) (ps rs qs ss : List Int) (w : World) (h1 : RdI w w.heap.size A1 ps) (h2 : RdI w w.heap.size A2 rs) (h3 : RdI w w.heap.size B1 qs) (h4 : RdI w w.heap.size B2 ss) (hp : ps.length ≤ 5000) (hr : rs.length ≤ 5000) :
    Calls Tryz.prog 36 #[.agg #[.slice A1 ps.length c1, .slice A2 rs.length c2], .agg #[.slice B1 qs.length d1, .slice B2 ss.length d2]] w fun e w' => e = .returned (.bool (decide (ps = qs) && decide (rs = ss))) ∧ Below w.heap.size w w' := by
  obtain ⟨x, hx⟩ : ∃ x, decide (ps = qs) = x := ⟨_, rfl⟩
  obtain ⟨y, hy⟩ : ∃ y, decide (rs = ss) = y := ⟨_, rfl⟩
  have C1 : Hid (∀ W : World, RdI W w.heap.size A1 ps → RdI W w.heap.size B1 qs → Calls Tryz.prog 37 #[.slice A1 ps.length c1, .slice B1 qs.length d1] W fun e w' => e = .returned (.bool x) ∧ ∃ q, w' = W.drewN q) := fun W k1 k2 => by have := refSameVals_any A1 B1 c1 d1 ps qs W _ k1 k2 (by omega); rw [hx] at this; exact this
  have C2 : Hid (∀ W : World, RdI W w.heap.size A2 rs → RdI W w.heap.size B2 ss → Calls Tryz.prog 37 #[.slice A2 rs.length c2, .slice B2 ss.length d2] W fun e w' => e = .returned (.bool y) ∧ ∃ q, w' = W.drewN q) := fun W k1 k2 => by have := refSameVals_any A2 B2 c2 d2 rs ss W _ k1 k2 (by omega); rw [hy] at this; exact this
  rw [hx, hy]
  clear hx hy hp hr
  rcases x with _ | _
  all_goals
    go_enter Tryz.func36, Tryz.ntmps36
    go_wp2_with (first
      | (go_at_call 37; (with_reducible refine (C1.out _ (two_rdi h1 _ _) (two_rdi h3 _ _)).mono ?_); rintro e w1 ⟨rfl, q, rfl⟩)
      | (go_at_call 37; (with_reducible refine (C2.out _ ((two_rdi h2 _ _).drewN _) ((two_rdi h4 _ _).drewN _)).mono ?_); rintro e w1 ⟨rfl, q2, rfl⟩))
    go_ret
    refine ⟨by simp, ?_⟩
    first
      | exact below_drewN_ (((Below.refl _ _).alloc (Nat.le_refl _) _).alloc (by simp) _) _
      | exact below_drewN_ (below_drewN_ (((Below.refl _ _).alloc (Nat.le_refl _) _).alloc (by simp) _) _) _
end Go.Proofs.YtmhmpobjjhbklaaGreatDoor
