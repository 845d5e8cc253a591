/-
  Push and Pop of a Scope.
-/
import Derived.Test.YtbnddnoognoekaaScopeSep
import Derived.Deep.RegionHeld3
set_option linter.unusedVariables false
namespace Go.Proofs.Ytbnddnoognoekaa
open Go.RowKit

theorem info_string : (Try.prog.info? 9).map (fun i => (i.zero, i.size, i.bytes)) = some (some (.string ByteArray.empty), 1, 16) := by kernel_rfl
theorem one_str (t : Nm) : ∀ u ∈ (#[.string ⟨t.toArray⟩] : Array Value).toList, u.oneCell' = true := by
  intro u hu; simp at hu; subst hu; rfl

set_option maxHeartbeats 1000000 in
set_option maxRecDepth 100000 in
theorem push_any {W : World} {B s : Nat} {y : Lay} {σ : SSt} (h : ScopeAt W B s y σ) (t : Nm) (hl : σ.lab.length ≤ 1000000) :
    Calls Try.prog 10 #[.pointer (some ⟨s, 0, none⟩), .string ⟨t.toArray⟩] W fun e w' => e = .returned (.tuple #[]) ∧ ∃ y', ScopeAt w' B s y' ⟨σ.k, σ.lab ++ [t]⟩ ∧ Turned W w' B s y y' := by
  obtain ⟨i0, hi0, hz0, hz1, hz2⟩ := info_parts info_string
  have hc0 := scope_cell0 h
  have hc1 := scope_cell1 h
  have hs := lt_of_heap h.blk
  have hB := h.ls
  have hown := h.labs
  have hsl : y.lv.ownBlock ≠ some s := fun e => absurd rfl (ne_tag h.ts (h.tl e) (by decide))
  have HB := Lib.hid h.blk
  go_enter Try.func10, Try.ntmps10
  go_wp2_with (first
    | (go_at_call 29; refine (made_yes s y.a _ hc0).mono ?_; rintro e w1 ⟨rfl, rfl⟩)
    | (at_builtin; (refine app_one _ _ rfl (.tmp 10) (.tmp 12) 22 rfl B 9 i0 _ 1 16 Try.underlying22 hi0 hz0 hz1 hz2 rfl (by omega) rfl (one_str t) _ σ.lab.length _ rfl hown W.heap.size rfl rfl (by omega) (by omega) (by omega) ?_); intro A2 c2 w2 hown2 hg2 hat2; have hb2 := (hg2.block s hs (Ne.symm hsl)).trans HB.out; have k1 := cell_of_row w2 s 1 _ _ _ hb2; have k2 := frozen_of_row w2 s 1 _ _ hb2))
  go_end0
  have hgs : ∀ g, Value.ownBlock (.slice A2 (σ.lab.length + 1) c2) = some g → g ≠ s := by
    intro g hg e
    subst e
    rcases hat2 with h1 | h1
    · exact hsl (h1 ▸ hg)
    · rw [h1] at hg; injection hg with hg; omega
  refine ⟨rfl, _, h.turn_labels (.slice A2 (σ.lab.length + 1) c2) (σ.lab ++ [t]) ?_ ?_ ((below_own hown hg2 (by omega)).setCell (p := ⟨s, 1, none⟩) hB _) (fun b hl' hbs hlv => (Below.heap_setCell _ _ _ _ hbs).trans (hg2.block b hl' (Ne.symm hlv))) ?_⟩
  · rw [Go.heap_setCell_same w2 s 1 _ _ _ hb2]; rfl
  · have e1 : (σ.lab ++ [t]).length = σ.lab.length + 1 := by simp
    have e2 : (σ.lab ++ [t]).map str = σ.lab.map str ++ [.string ⟨t.toArray⟩] := by simp [str]
    rw [e1, e2]
    exact own_same hown2 (fun g hg => Below.heap_setCell _ _ _ _ (hgs g hg))
  · rcases hat2 with h1 | h1
    · exact .inl h1
    · exact .inr (.inr ⟨_, h1, by omega⟩)

set_option maxHeartbeats 1000000 in
set_option maxRecDepth 100000 in
theorem pop_any {W : World} {B s : Nat} {y : Lay} {σ : SSt} (h : ScopeAt W B s y σ) (hl : σ.lab.length ≤ 1000000) :
    Calls Try.prog 11 #[.pointer (some ⟨s, 0, none⟩)] W fun e w' => e = .returned (.tuple #[]) ∧ ∃ y', ScopeAt w' B s y' ⟨σ.k, σ.lab.take (σ.lab.length - 1)⟩ ∧ Turned W w' B s y y' := by
  have hc0 := scope_cell0 h
  have hc1 := scope_cell1 h
  have hs := lt_of_heap h.blk
  have hB := h.ls
  have hown := h.labs
  have HB := Lib.hid h.blk
  obtain ⟨A, cap, hv, hcap⟩ : ∃ A cap, y.lv = .slice A σ.lab.length cap ∧ σ.lab.length ≤ cap := by
    rcases hown.2 with ⟨h1, h2⟩ | ⟨g, cap, cur, h1, _, _, h2, _⟩
    · exact ⟨none, 0, by rw [h1, h2], by omega⟩
    · exact ⟨_, cap, h1, h2⟩
  obtain ⟨n, hn⟩ : ∃ n, σ.lab.length = n := ⟨_, rfl⟩
  rw [hn] at hv hl hcap
  rw [hv] at hc1
  by_cases h0 : n = 0
  · subst h0
    go_enter Try.func11, Try.ntmps11
    go_wp2_with (go_at_call 29; refine (made_yes s y.a _ hc0).mono ?_; rintro e w1 ⟨rfl, rfl⟩)
    go_end0
    have e0 : σ.lab = [] := List.eq_nil_of_length_eq_zero hn
    refine ⟨rfl, y, ?_, Turned.of_below h (Below.refl _ _)⟩
    rw [e0]
    have h' := h
    obtain ⟨k, lab⟩ := σ
    dsimp only at e0
    subst e0
    exact h'
  · obtain ⟨m, rfl⟩ : ∃ m, n = m + 1 := ⟨n - 1, by omega⟩
    have g1 : decide (0 < m + 1) = true := by simp
    have hwm : IntKind.i64.wrap (((m + 1 : Nat) : Int) - 1) = (m : Int) := by rw [IntKind.wrap_i64]; omega
    have hf := frozen_of_row W s 1 _ _ h.blk
    have q1 : (0 : Int) ≤ (m : Int) := Int.natCast_nonneg _
    have q2 : (m : Int) ≤ (cap : Int) := by omega
    have hgA : ∃ g, A = some ⟨g, 0, none⟩ := by
      rcases hown.2 with ⟨h1, h2⟩ | ⟨g, cap', cur, h1, _⟩
      · omega
      · rw [hv] at h1; injection h1 with h1; exact ⟨g, h1⟩
    obtain ⟨g, rfl⟩ := hgA
    have hsl : g ≠ s := fun e => absurd rfl (ne_tag (e ▸ h.ts) (h.tl (g := g) (by rw [hv]; rfl)) (by decide))
    generalize hM : (m + 1 : Nat) = M at hc1 hwm g1 hv hn
    go_enter Try.func11, Try.ntmps11
    go_wp2_with (go_at_call 29; refine (made_yes s y.a _ hc0).mono ?_; rintro e w1 ⟨rfl, rfl⟩)
    go_region
    all_goals
      go_wp2
      go_end0
      have hb2 : W.drew.heap[s]? = some (.cells #[.map (some y.a), y.lv] 58 (0, 0)) := HB.out
      refine ⟨rfl, _, h.turn_labels (.slice (some ⟨g, 0, none⟩) m cap) (σ.lab.take (σ.lab.length - 1)) ?_ ?_ (((Below.refl B W).drew).setCell (p := ⟨s, 1, none⟩) hB _) (fun b hl' hbs hlv => (Below.heap_setCell _ _ _ _ hbs).trans rfl) (.inl (by rw [hv]; rfl))⟩
      · refine (Go.heap_setCell_same W.drew s 1 _ _ _ hb2).trans rfl
      · have e1 : (σ.lab.take (σ.lab.length - 1)).length = m := by simp; omega
        have e2 : (σ.lab.take (σ.lab.length - 1)).map str = (σ.lab.map str).take m := by rw [List.map_take]; congr 1; omega
        rw [e1, e2]
        have ho : W.ownsRow B 9 1 (.slice (some ⟨g, 0, none⟩) M cap) M (σ.lab.map str) := by rw [← hv, ← hn]; exact hown
        exact own_same (own_take ho m (by omega) (by omega)) (fun g' hg' => by
          have : g' = g := by simpa [Value.ownBlock] using hg'.symm
          subst this
          exact (Below.heap_setCell _ _ _ _ hsl).trans rfl)
end Go.Proofs.Ytbnddnoognoekaa
