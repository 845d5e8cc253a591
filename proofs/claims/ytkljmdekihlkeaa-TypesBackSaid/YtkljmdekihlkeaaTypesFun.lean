/-
  Equality of lists of types: contracts of the program's and the reference's functions.
-/
import Derived.Test.YtkljmdekihlkeaaTypesLim
import Derived.Deep.QuietTactic
import Derived.BigQuiet
set_option linter.unusedVariables false
namespace Go.Proofs.Ytkljmdekihlkeaa
open Go.RowKit

theorem drop_eq_cons {l : List Int} {k : Nat} {t : Int} (h : k < l.length) (ht : l[k] = t) : l.drop k = t :: l.drop (k + 1) := by rw [List.drop_eq_getElem_cons h, ht]

set_option maxHeartbeats 1000000 in
set_option maxRecDepth 100000 in
theorem same_any (A B : Option Addr) (c d : Nat) (xs ys : List Int) (w : World) (N : Nat) (ha : RdI w N A xs) (hb : RdI w N B ys) (hl : xs.length ≤ 1000000) :
    Calls Try.prog 40 #[.slice A xs.length c, .slice B ys.length d] w fun e w' => e = .returned (.bool (decide (xs = ys))) ∧ w = w' := by
  by_cases h : xs.length = ys.length
  · obtain ⟨n, hn⟩ : ∃ n, ys.length = n := ⟨_, rfl⟩
    rw [h, hn]
    have han : xs.length = n := h.trans hn
    go_enter Try.func40, Try.ntmps40
    go_wp2
    go_loop [14] (fun i => ∃ k : Nat, k ≤ n ∧ i = .int .i64 k ∧ Hid (decide (xs = ys) = decide (xs.drop k = ys.drop k))) (fun i => n - (intOf i).toNat)
    case atStart => exact ⟨0, by omega, rfl, by simp [Hid]⟩
    case round =>
      obtain ⟨k, hk, rfl, HR⟩ := hrel
      by_cases hkl : k < n
      · obtain ⟨ad, rfl, _, hcell⟩ := ha.at_ (show k < xs.length by omega)
        obtain ⟨bd, rfl, _, hcelb⟩ := hb.at_ (show k < ys.length by omega)
        obtain ⟨t, ht⟩ : ∃ t, xs[k] = t := ⟨_, rfl⟩
        obtain ⟨u, hu⟩ : ∃ u, ys[k] = u := ⟨_, rfl⟩
        rw [ht] at hcell
        rw [hu] at hcelb
        have hd := drop_eq_cons (by omega) ht
        have hd' := drop_eq_cons (by omega) hu
        have hk0 : (0 : Int) ≤ (k : Int) := Int.natCast_nonneg _
        rcases hv : (t == u) with _ | _
        · have hf : Hid (decide (xs = ys) = false) := by
            unfold Hid
            rw [HR.out, hd, hd']
            simp at hv ⊢
            intro e; exact absurd e hv
          clear ht hu hd hd'
          go_wp2
          go_ret
          exact ⟨by rw [hf.out]; rfl, rfl⟩
        · have hf : Hid (decide (xs = ys) = decide (xs.drop (k + 1) = ys.drop (k + 1))) := by
            unfold Hid
            rw [HR.out, hd, hd']
            simp at hv
            simp [hv]
          clear ht hu hd hd'
          go_wp2
          go_round
          case rel => exact ⟨k + 1, by omega, by go_num, hf⟩
          case measure => simp [intOf]; omega
      · have hf : Hid (decide (xs = ys) = true) := by unfold Hid; rw [HR.out, List.drop_of_length_le (by omega), List.drop_of_length_le (by omega)]; simp
        go_wp2
        go_ret
        exact ⟨by rw [hf.out]; rfl, rfl⟩
  · have hf : Hid (decide (xs = ys) = false) := by unfold Hid; simp; intro e; exact h (by rw [e])
    have g1 : ((xs.length : Int) == (ys.length : Int)) = false := by simp; omega
    go_enter Try.func40, Try.ntmps40
    go_wp2
    go_ret
    exact ⟨by rw [hf.out]; rfl, rfl⟩

theorem sameVals_any (A B : Option Addr) (c d : Nat) (xs ys : List Int) (w : World) (N : Nat) (ha : RdI w N A xs) (hb : RdI w N B ys) (hl : xs.length ≤ 1000000) :
    Calls Try.prog 20 #[.slice A xs.length c, .slice B ys.length d] w fun e w' => e = .returned (.bool (decide (xs = ys))) ∧ w = w' := by
  obtain ⟨x, hx⟩ : ∃ x, decide (xs = ys) = x := ⟨_, rfl⟩
  have C : Hid (∀ W : World, RdI W N A xs → RdI W N B ys → Calls Try.prog 40 #[.slice A xs.length c, .slice B ys.length d] W fun e w' => e = .returned (.bool x) ∧ W = w') := fun W h1 h2 => by have := same_any A B c d xs ys W N h1 h2 hl; rw [hx] at this; exact this
  rw [hx]
  clear hx hl
  go_enter Try.func20, Try.ntmps20
  go_wp2_with (go_at_call 40; (with_reducible refine (C.out _ ha hb).mono ?_); rintro e w1 ⟨rfl, rfl⟩)
  go_ret
  exact ⟨rfl, rfl⟩

theorem few_any (A1 A2 : Option Addr) (c1 c2 n m : Nat) (w : World) :
    Calls Try.prog 17 #[.agg #[.slice A1 n c1, .slice A2 m c2]] w fun e w' => e = .returned (.bool (decide (n ≤ 100) && decide (m ≤ 100))) ∧ Below w.heap.size w w' := by
  by_cases h1 : n ≤ 100
  · by_cases h2 : m ≤ 100
    · have g1 : decide ((n : Int) ≤ 100) = true := by simp; omega
      have g2 : decide ((m : Int) ≤ 100) = true := by simp; omega
      have e : (decide (n ≤ 100) && decide (m ≤ 100)) = true := by simp; omega
      rw [e]
      clear h1 h2 e
      go_enter Try.func17, Try.ntmps17
      go_wp2
      go_ret
      exact ⟨rfl, (Below.refl _ _).alloc (Nat.le_refl _) _⟩
    · have g1 : decide ((n : Int) ≤ 100) = true := by simp; omega
      have g2 : decide ((m : Int) ≤ 100) = false := by simp; omega
      have e : (decide (n ≤ 100) && decide (m ≤ 100)) = false := by simp; omega
      rw [e]
      clear h1 h2 e
      go_enter Try.func17, Try.ntmps17
      go_wp2
      go_ret
      exact ⟨rfl, (Below.refl _ _).alloc (Nat.le_refl _) _⟩
  · have g1 : decide ((n : Int) ≤ 100) = false := by simp; omega
    have e : (decide (n ≤ 100) && decide (m ≤ 100)) = false := by simp; omega
    rw [e]
    clear h1 e
    go_enter Try.func17, Try.ntmps17
    go_wp2
    go_ret
    exact ⟨rfl, (Below.refl _ _).alloc (Nat.le_refl _) _⟩

theorem two_rdi {w : World} {A : Option Addr} {vs : List Int} (h : RdI w w.heap.size A vs) (o o' : Obj) : RdI ((w.alloc o).alloc o') w.heap.size A vs :=
  (h.alloc (Nat.le_refl _) o).alloc (by simp) o'

set_option maxHeartbeats 1000000 in
set_option maxRecDepth 100000 in
theorem typesSame_any (A1 A2 B1 B2 : Option Addr) (c1 c2 d1 d2 : Nat) (ps rs qs ss : List Int) (w : World) (h1 : RdI w w.heap.size A1 ps) (h2 : RdI w w.heap.size A2 rs) (h3 : RdI w w.heap.size B1 qs) (h4 : RdI w w.heap.size B2 ss) (hp : ps.length ≤ 1000) (hr : rs.length ≤ 1000) :
    Calls Try.prog 18 #[.agg #[.slice A1 ps.length c1, .slice A2 rs.length c2], .agg #[.slice B1 qs.length d1, .slice B2 ss.length d2]] w fun e w' => e = .returned (.bool (decide (ps = qs) && decide (rs = ss))) ∧ Below w.heap.size w w' := by
  obtain ⟨x, hx⟩ : ∃ x, decide (ps = qs) = x := ⟨_, rfl⟩
  obtain ⟨y, hy⟩ : ∃ y, decide (rs = ss) = y := ⟨_, rfl⟩
  have C1 : Hid (∀ W : World, RdI W w.heap.size A1 ps → RdI W w.heap.size B1 qs → Calls Try.prog 40 #[.slice A1 ps.length c1, .slice B1 qs.length d1] W fun e w' => e = .returned (.bool x) ∧ W = w') := fun W k1 k2 => by have := same_any A1 B1 c1 d1 ps qs W _ k1 k2 (by omega); rw [hx] at this; exact this
  have C2 : Hid (∀ W : World, RdI W w.heap.size A2 rs → RdI W w.heap.size B2 ss → Calls Try.prog 40 #[.slice A2 rs.length c2, .slice B2 ss.length d2] W fun e w' => e = .returned (.bool y) ∧ W = w') := fun W k1 k2 => by have := same_any A2 B2 c2 d2 rs ss W _ k1 k2 (by omega); rw [hy] at this; exact this
  rw [hx, hy]
  clear hx hy hp hr
  rcases x with _ | _
  all_goals
    go_enter Try.func18, Try.ntmps18
    go_wp2_with (first
      | (go_at_call 40; (with_reducible refine (C1.out _ (two_rdi h1 _ _) (two_rdi h3 _ _)).mono ?_); rintro e w1 ⟨rfl, rfl⟩)
      | (go_at_call 40; (with_reducible refine (C2.out _ (two_rdi h2 _ _) (two_rdi h4 _ _)).mono ?_); rintro e w1 ⟨rfl, rfl⟩))
    go_ret
    exact ⟨by simp, ((Below.refl _ _).alloc (Nat.le_refl _) _).alloc (by simp) _⟩

set_option maxHeartbeats 1000000 in
set_option maxRecDepth 100000 in
theorem refVals_any (A : Option Addr) (c : Nat) (vs : List Int) (w : World) (B : Nat) (hr : RdI w B A vs) (hl : vs.length ≤ 1000000) :
    Calls Try.prog 42 #[.slice A vs.length c] w fun e w' => e = .returned (.bool (Ty.right vs)) ∧ w = w' := by
  have hR : Hid (Ty.right vs = (decide (vs.length ≤ 8) && vs.all Ty.val)) := rfl
  go_enter Try.func42, Try.ntmps42
  go_wp2
  go_loop [3] (fun i => ∃ k : Nat, k ≤ vs.length ∧ i = .int .i64 k ∧ Hid (vs.all Ty.val = (vs.drop k).all Ty.val)) (fun i => vs.length - (intOf i).toNat)
  case atStart => exact ⟨0, by omega, rfl, by simp [Hid]⟩
  case round =>
    obtain ⟨k, hk, rfl, HR⟩ := hrel
    by_cases hkl : k < vs.length
    · obtain ⟨ad, rfl, _, hcell⟩ := hr.at_ hkl
      obtain ⟨t, ht⟩ : ∃ t, vs[k] = t := ⟨_, rfl⟩
      rw [ht] at hcell
      have hd : vs.drop k = t :: vs.drop (k + 1) := drop_eq_cons hkl ht
      rcases hv : Ty.val t with _ | _
      · have hf : Hid (Ty.right vs = false) := by unfold Hid; rw [hR.out, HR.out, hd, List.all_cons, hv]; simp
        have HV := Lib.hid hv
        clear hv ht hd
        go_wp2_with (go_at_call 33; refine (refVal_any _ _).mono ?_; rintro e w1 ⟨rfl, rfl⟩; rw [HV.out])
        go_ret
        exact ⟨by rw [hf.out]; rfl, rfl⟩
      · have hf : Hid (vs.all Ty.val = (vs.drop (k + 1)).all Ty.val) := by unfold Hid; rw [HR.out, hd, List.all_cons, hv, Bool.true_and]
        have HV := Lib.hid hv
        clear hv ht hd
        go_wp2_with (go_at_call 33; refine (refVal_any _ _).mono ?_; rintro e w1 ⟨rfl, rfl⟩; rw [HV.out])
        go_round
        case rel => exact ⟨k + 1, by omega, by go_num, hf⟩
        case measure => simp [intOf]; omega
    · have hf : Hid (Ty.right vs = decide ((vs.length : Int) ≤ 8)) := by
        unfold Hid
        rw [hR.out, HR.out, List.drop_of_length_le (by omega), List.all_nil, Bool.and_true]
        exact decide_eq_decide.2 (by omega)
      go_wp2
      go_ret
      exact ⟨by rw [hf.out]; rfl, rfl⟩
end Go.Proofs.Ytkljmdekihlkeaa
