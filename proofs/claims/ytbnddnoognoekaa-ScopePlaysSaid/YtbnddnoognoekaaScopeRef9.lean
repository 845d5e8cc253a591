/-
  The reference's Pop; Add at a bad name.
-/
import Derived.Test.YtbnddnoognoekaaScopeRef8
import Derived.Test.YtbnddnoognoekaaLitRName
set_option linter.unusedVariables false
namespace Go.Proofs.Ytbnddnoognoekaa
open Go.RowKit Go.Maps

theorem RefIs.popped {W W' : World} {vs : Nat → Value} {lv : Value} {σ : SSt} (h : RefIs W vs lv σ) (hb : Below W.heap.size W W') {m c : Nat} {ad : Addr} (hn : σ.lab.length = m + 1) (hcap : m + 1 ≤ c) (hr : RdS W W.heap.size (some ad) σ.lab) :
    RefIs W' vs (.slice (some ad) m c) ⟨σ.k, σ.lab.take (σ.lab.length - 1)⟩ := by
  have h' := h.below hb
  have e1 : (σ.lab.take (σ.lab.length - 1)).length = m := by simp; omega
  refine ⟨h'.k, some ad, c, by rw [e1], ?_, by rw [e1]; omega⟩
  unfold RdS at hr ⊢
  have hf := Reads.front (k := m) hr (by omega)
  dsimp only
  rw [e1]
  have e2 : (σ.lab.take (σ.lab.length - 1)).map str = (σ.lab.map str).take (m * 1) := by rw [List.map_take]; congr 1; omega
  rw [e2]
  exact Reads.more (Reads.below hf hb) hb.size
theorem RefIs.set {W W' : World} {vs : Nat → Value} {lv : Value} {σ : SSt} (h : RefIs W vs lv σ) (hb : Below W.heap.size W W') (K : Nat) (xs : List Nm) (A : Option Addr) (c : Nat) (hr : RdS W' W'.heap.size A xs) :
    RefIs W' (upd vs K (.slice A xs.length c)) lv ⟨upd σ.k K xs, σ.lab⟩ := by
  have h' := h.below hb
  refine ⟨fun j hj => ?_, h'.l⟩
  dsimp only
  by_cases e : j = K
  · subst e
    rw [upd_same, upd_same]
    exact ⟨A, c, rfl, hr⟩
  · rw [upd_other _ _ _ e, upd_other _ _ _ e]
    exact h'.k j hj

set_option maxHeartbeats 600000 in
set_option maxRecDepth 100000 in
theorem radd_name {W : World} {vs : Nat → Value} {lv : Value} {σ : SSt} (h : RefIs W vs lv σ) (k : Int) (t : Nm) (hr : 0 ≤ k ∧ k < 9) (hl : t.length ≤ 1000000) (h0 : t ≠ []) (hn : Ltr.name t = false) :
    Calls Try.prog 18 #[.agg (refCells vs lv), .int .i64 k, .string ⟨t.toArray⟩] W fun e w' => e = .returned (.tuple #[.agg (refCells vs lv), .int .i64 0, .int .i64 24]) ∧ Below W.heap.size W w' := by
  have his := is_any k
  have e : decide (0 ≤ k ∧ k < 9) = true := by simpa using hr
  rw [e] at his
  have HI := Lib.hid his
  have hb0 : List.isEmpty t = false := by cases t <;> simp at h0 ⊢
  have HN : Hid (∀ w : World, Calls Try.prog 15 #[.string ⟨t.toArray⟩] w fun e w' => e = .returned (.bool false) ∧ w = w') := Lib.hid (fun w => by have := rname_any t w (by omega); rw [hn] at this; exact this)
  clear h0 hn
  obtain ⟨A, c, hv, _, _⟩ := h.l
  obtain ⟨xs, hxs⟩ : ∃ xs, σ.lab = xs := ⟨_, rfl⟩
  rw [hxs] at hv
  unfold refCells
  obtain ⟨B0, k0, e0, _⟩ := h.k 0 (by omega)
  obtain ⟨B1, k1, e1, _⟩ := h.k 1 (by omega)
  obtain ⟨B2, k2, e2, _⟩ := h.k 2 (by omega)
  obtain ⟨B3, k3, e3, _⟩ := h.k 3 (by omega)
  obtain ⟨B4, k4, e4, _⟩ := h.k 4 (by omega)
  obtain ⟨B5, k5, e5, _⟩ := h.k 5 (by omega)
  obtain ⟨B6, k6, e6, _⟩ := h.k 6 (by omega)
  obtain ⟨B7, k7, e7, _⟩ := h.k 7 (by omega)
  obtain ⟨B8, k8, e8, _⟩ := h.k 8 (by omega)
  rw [e0, e1, e2, e3, e4, e5, e6, e7, e8, hv]
  clear his e hr h hv hxs e0 e1 e2 e3 e4 e5 e6 e7 e8
  go_enter Try.func18, Try.ntmps18
  go_wp2_with (first
    | (go_at_call 35; refine (HI.out _).mono ?_; rintro e w1 ⟨rfl, rfl⟩)
    | (go_at_call 15; refine (HN.out _).mono ?_; rintro e w1 ⟨rfl, rfl⟩))
  go_returns
  refine ⟨rfl, ?_⟩
  exact ((Below.refl _ _).alloc (Nat.le_refl _) _).alloc (by simp) _

set_option maxHeartbeats 600000 in
set_option maxRecDepth 100000 in
theorem rpop_any {W : World} {vs : Nat → Value} {lv : Value} {σ : SSt} (h : RefIs W vs lv σ) (hll : σ.lab.length ≤ 1000000) :
    Calls Try.prog 21 #[.agg (refCells vs lv)] W fun e w' => ∃ lv', e = .returned (.agg (refCells vs lv')) ∧ RefIs w' vs lv' ⟨σ.k, σ.lab.take (σ.lab.length - 1)⟩ ∧ Below W.heap.size W w' ∧ NewOr W w' lv lv' := by
  obtain ⟨A, c, hv, hr, hcap⟩ := h.l
  have HH := Lib.hid h
  obtain ⟨n, hn⟩ : ∃ n, σ.lab.length = n := ⟨_, rfl⟩
  rw [hn] at hv hll hcap
  unfold refCells
  obtain ⟨B0, k0, e0, _⟩ := h.k 0 (by omega)
  obtain ⟨B1, k1, e1, _⟩ := h.k 1 (by omega)
  obtain ⟨B2, k2, e2, _⟩ := h.k 2 (by omega)
  obtain ⟨B3, k3, e3, _⟩ := h.k 3 (by omega)
  obtain ⟨B4, k4, e4, _⟩ := h.k 4 (by omega)
  obtain ⟨B5, k5, e5, _⟩ := h.k 5 (by omega)
  obtain ⟨B6, k6, e6, _⟩ := h.k 6 (by omega)
  obtain ⟨B7, k7, e7, _⟩ := h.k 7 (by omega)
  obtain ⟨B8, k8, e8, _⟩ := h.k 8 (by omega)
  rw [e0, e1, e2, e3, e4, e5, e6, e7, e8, hv]
  by_cases h0 : n = 0
  · subst h0
    have HE := Lib.hid (And.intro hn (And.intro hv hr))
    have HE2 := Lib.hid (And.intro e0 (And.intro e1 (And.intro e2 (And.intro e3 (And.intro e4 (And.intro e5 (And.intro e6 (And.intro e7 e8))))))))
    clear h hr hn hv e0 e1 e2 e3 e4 e5 e6 e7 e8
    go_enter Try.func21, Try.ntmps21
    go_wp2
    go_returns
    have hb := ((Below.refl W.heap.size W).alloc (Nat.le_refl _) (.cells #[.slice B0 (σ.k 0).length k0, .slice B1 (σ.k 1).length k1, .slice B2 (σ.k 2).length k2, .slice B3 (σ.k 3).length k3, .slice B4 (σ.k 4).length k4, .slice B5 (σ.k 5).length k5, .slice B6 (σ.k 6).length k6, .slice B7 (σ.k 7).length k7, .slice B8 (σ.k 8).length k8, .slice A 0 c] 39)).alloc (by simp) (.cells #[.slice B0 (σ.k 0).length k0, .slice B1 (σ.k 1).length k1, .slice B2 (σ.k 2).length k2, .slice B3 (σ.k 3).length k3, .slice B4 (σ.k 4).length k4, .slice B5 (σ.k 5).length k5, .slice B6 (σ.k 6).length k6, .slice B7 (σ.k 7).length k7, .slice B8 (σ.k 8).length k8, .slice A 0 c] 39)
    refine ⟨.slice A 0 c, rfl, ?_, hb, fun g hg => .inr (by first | exact hg | (rw [(HE.out).2.1]; exact hg))⟩
    obtain ⟨hn, hv, hr⟩ := HE.out
    have h' := HH.out.below hb
    have e0 : σ.lab = [] := List.eq_nil_of_length_eq_zero hn
    refine ⟨h'.k, A, c, ?_, ?_, ?_⟩
    · simp [e0]
    · have := h'.l
      dsimp only
      rw [e0]
      exact Reads.none_
    · simp [e0]
  · obtain ⟨m, rfl⟩ : ∃ m, n = m + 1 := ⟨n - 1, by omega⟩
    obtain ⟨ad, rfl⟩ : ∃ ad, A = some ad := by obtain ⟨ad, h1, _, _⟩ := hr.at_ (k := 0) (by omega); exact ⟨ad, h1⟩
    have hwm : IntKind.i64.wrap (((m + 1 : Nat) : Int) - 1) = (m : Int) := by rw [IntKind.wrap_i64]; omega
    have q1 : (0 : Int) ≤ (m : Int) := Int.natCast_nonneg _
    have q2 : (m : Int) ≤ (c : Int) := by omega
    have q3 : (((m + 1 : Nat) : Int) == 0) = false := by simpa using (by omega : ¬ ((m + 1 : Nat) : Int) = 0)
    have HE := Lib.hid (And.intro hn (And.intro hcap hr))
    generalize hM : (m + 1 : Nat) = M at hwm q3 hv
    have HM := Lib.hid hM
    have HV := Lib.hid hv
    clear h hr hn hv hM hcap e0 e1 e2 e3 e4 e5 e6 e7 e8
    go_enter Try.func21, Try.ntmps21
    go_wp2
    go_region
    all_goals
      go_wp2
      go_returns
      obtain ⟨hn, hcap, hr⟩ := HE.out
      have hb := (((Below.refl W.heap.size W).alloc (Nat.le_refl _) (.cells #[.slice B0 (σ.k 0).length k0, .slice B1 (σ.k 1).length k1, .slice B2 (σ.k 2).length k2, .slice B3 (σ.k 3).length k3, .slice B4 (σ.k 4).length k4, .slice B5 (σ.k 5).length k5, .slice B6 (σ.k 6).length k6, .slice B7 (σ.k 7).length k7, .slice B8 (σ.k 8).length k8, .slice (some ad) M c] 39)).alloc (by simp) (.cells #[.slice B0 (σ.k 0).length k0, .slice B1 (σ.k 1).length k1, .slice B2 (σ.k 2).length k2, .slice B3 (σ.k 3).length k3, .slice B4 (σ.k 4).length k4, .slice B5 (σ.k 5).length k5, .slice B6 (σ.k 6).length k6, .slice B7 (σ.k 7).length k7, .slice B8 (σ.k 8).length k8, .slice (some ad) m c] 39)).drew
      exact ⟨.slice (some ad) m c, rfl, HH.out.popped hb hn hcap hr, hb, fun g hg => .inr (by first | exact hg | (rw [HV.out]; exact hg))⟩
end Go.Proofs.Ytbnddnoognoekaa
