/-
  The reference's Add at a name that is there.
-/
import Derived.Test.YtbnddnoognoekaaScopeRef9
import Derived.Test.YtbnddnoognoekaaLitRName
set_option linter.unusedVariables false
namespace Go.Proofs.Ytbnddnoognoekaa
open Go.RowKit Go.Maps

theorem results_row3 {P : Program} {fn : Func} {p u v : Tmp} {ty : TypeId} (h : fn.results = #[.cell p ty, .tmp u, .tmp v]) (tmps : Array Value) (w : World) (g : Nat) (t : TypeId) (cs : Array Value) (fr : Nat × Nat) (d : TypeDesc)
    (hp : tmps.getD p undef = .pointer (some ⟨g, 0, none⟩)) (hg : w.heap[g]? = some (.cells cs t fr))
    (hu : P.underlying ty = some d) (hd : (match d with | .struct _ | .array _ _ => true | _ => false) = true) (hi : (P.info? ty).map (·.size) = some cs.size) (a b : Value) (ha : tmps.getD u undef = a) (hb : tmps.getD v undef = b) :
    (results fn tmps).run P w = .ok (.tuple #[.agg cs, a, b]) w := by
  have hp' : tmps[p]?.getD undef = .pointer (some ⟨g, 0, none⟩) := by simpa using hp
  have ha' : tmps[u]?.getD undef = a := by simpa using ha
  have hb' : tmps[v]?.getD undef = b := by simpa using hb
  simp [results, h, hp', ha', hb', asAddr, run_loadVar_row w g t ty cs fr d hg hu hd hi]

set_option maxHeartbeats 600000 in
set_option maxRecDepth 100000 in
theorem radd_twice {W : World} {vs : Nat → Value} {lv : Value} {σ : SSt} (h : RefIs W vs lv σ) (K : Nat) (hK : K < 9) (t : Nm) (hl : t.length ≤ 1000000) (h0 : t ≠ []) (hn : Ltr.name t = true) (hll : (σ.k K).length ≤ 1000000) (i : Nat) (hi : placeF (σ.k K) t = (i : Int)) :
    Calls Try.prog 18 #[.agg (refCells vs lv), .int .i64 (K : Int), .string ⟨t.toArray⟩] W fun e w' => e = .returned (.tuple #[.agg (refCells vs lv), .int .i64 0, .int .i64 21]) ∧ Below W.heap.size W w' := by
  have his := is_any (K : Int)
  have e : decide (0 ≤ (K : Int) ∧ (K : Int) < 9) = true := by simp; omega
  rw [e] at his
  have HI := Lib.hid his
  have hb0 : List.isEmpty t = false := by cases t <;> simp at h0 ⊢
  have HN : Hid (∀ w : World, Calls Try.prog 15 #[.string ⟨t.toArray⟩] w fun e w' => e = .returned (.bool true) ∧ w = w') := Lib.hid (fun w => by have := rname_any t w (by omega); rw [hn] at this; exact this)
  obtain ⟨A, c, hv, _, _⟩ := h.l
  obtain ⟨xs, hxs⟩ : ∃ xs, σ.lab = xs := ⟨_, rfl⟩
  rw [hxs] at hv
  subst hv
  obtain ⟨A', c', hv', hr'⟩ := h.k K hK
  have hcell0 := ref_cell (W := W) (lv := .slice A xs.length c) K hK _ hv'
  obtain ⟨ys, hys⟩ : ∃ ys, σ.k K = ys := ⟨_, rfl⟩
  rw [hys] at hr' hi hll hcell0
  unfold refCells
  obtain ⟨B0, k0, e0, _⟩ := h.k 0 (by omega)
  obtain ⟨B1, k1, e1, _⟩ := h.k 1 (by omega)
  obtain ⟨B2, k2, e2, _⟩ := h.k 2 (by omega)
  obtain ⟨B3, k3, e3, _⟩ := h.k 3 (by omega)
  obtain ⟨B4, k4, e4, _⟩ := h.k 4 (by omega)
  obtain ⟨B5, k5, e5, _⟩ := h.k 5 (by omega)
  obtain ⟨B6, k6, e6, _⟩ := h.k 6 (by omega)
  obtain ⟨B7, k7, e7, _⟩ := h.k 7 (by omega)
  obtain ⟨B8, k8, e8, _⟩ := h.k 8 (by omega)
  rw [e0, e1, e2, e3, e4, e5, e6, e7, e8]
  rw [e0, e1, e2, e3, e4, e5, e6, e7, e8] at hcell0
  have hcell : ((W.alloc (.cells #[.slice B0 (σ.k 0).length k0, .slice B1 (σ.k 1).length k1, .slice B2 (σ.k 2).length k2, .slice B3 (σ.k 3).length k3, .slice B4 (σ.k 4).length k4, .slice B5 (σ.k 5).length k5, .slice B6 (σ.k 6).length k6, .slice B7 (σ.k 7).length k7, .slice B8 (σ.k 8).length k8, .slice A xs.length c] 39)).alloc (.cells #[.slice none 0 0, .slice none 0 0, .slice none 0 0, .slice none 0 0, .slice none 0 0, .slice none 0 0, .slice none 0 0, .slice none 0 0, .slice none 0 0, .slice none 0 0] 39)).cell? ⟨W.heap.size, K, none⟩ = some (.slice A' ys.length c') := by
    rw [World.cell?_alloc_lt _ _ _ (by simp)]; exact hcell0
  have HP : Hid (Calls Try.prog 36 #[.slice A' ys.length c', .string ⟨t.toArray⟩] ((W.alloc (.cells #[.slice B0 (σ.k 0).length k0, .slice B1 (σ.k 1).length k1, .slice B2 (σ.k 2).length k2, .slice B3 (σ.k 3).length k3, .slice B4 (σ.k 4).length k4, .slice B5 (σ.k 5).length k5, .slice B6 (σ.k 6).length k6, .slice B7 (σ.k 7).length k7, .slice B8 (σ.k 8).length k8, .slice A xs.length c] 39)).alloc (.cells #[.slice none 0 0, .slice none 0 0, .slice none 0 0, .slice none 0 0, .slice none 0 0, .slice none 0 0, .slice none 0 0, .slice none 0 0, .slice none 0 0, .slice none 0 0] 39)) fun e w' => e = .returned (.int .i64 (i : Int)) ∧ ((W.alloc (.cells #[.slice B0 (σ.k 0).length k0, .slice B1 (σ.k 1).length k1, .slice B2 (σ.k 2).length k2, .slice B3 (σ.k 3).length k3, .slice B4 (σ.k 4).length k4, .slice B5 (σ.k 5).length k5, .slice B6 (σ.k 6).length k6, .slice B7 (σ.k 7).length k7, .slice B8 (σ.k 8).length k8, .slice A xs.length c] 39)).alloc (.cells #[.slice none 0 0, .slice none 0 0, .slice none 0 0, .slice none 0 0, .slice none 0 0, .slice none 0 0, .slice none 0 0, .slice none 0 0, .slice none 0 0, .slice none 0 0] 39)) = w') :=
    Lib.hid (by have := place_name A' c' ys t ((W.alloc (.cells #[.slice B0 (σ.k 0).length k0, .slice B1 (σ.k 1).length k1, .slice B2 (σ.k 2).length k2, .slice B3 (σ.k 3).length k3, .slice B4 (σ.k 4).length k4, .slice B5 (σ.k 5).length k5, .slice B6 (σ.k 6).length k6, .slice B7 (σ.k 7).length k7, .slice B8 (σ.k 8).length k8, .slice A xs.length c] 39)).alloc (.cells #[.slice none 0 0, .slice none 0 0, .slice none 0 0, .slice none 0 0, .slice none 0 0, .slice none 0 0, .slice none 0 0, .slice none 0 0, .slice none 0 0, .slice none 0 0] 39)) W.heap.size (Reads.alloc (Reads.alloc hr' (Nat.le_refl _) _) (by simp) _) hll h0; rw [hi] at this; exact this)
  have k0 : (0 : Int) ≤ (K : Int) := Int.natCast_nonneg _
  have k9 : (K : Int) < 9 := by omega
  have i0 : decide ((0 : Int) ≤ (i : Int)) = true := by simp
  clear his e h hv' hr' hi h0 hn hcell0 hys e0 e1 e2 e3 e4 e5 e6 e7 e8
  go_enter Try.func18, Try.ntmps18
  go_wp2_with (first
    | (go_at_call 35; refine (HI.out _).mono ?_; rintro e w1 ⟨rfl, rfl⟩)
    | (go_at_call 15; refine (HN.out _).mono ?_; rintro e w1 ⟨rfl, rfl⟩)
    | (go_at_call 36; refine HP.out.mono ?_; rintro e w1 ⟨rfl, rfl⟩))
  go_returns
  exact ⟨rfl, ((Below.refl _ _).alloc (Nat.le_refl _) _).alloc (by simp) _⟩
end Go.Proofs.Ytbnddnoognoekaa
