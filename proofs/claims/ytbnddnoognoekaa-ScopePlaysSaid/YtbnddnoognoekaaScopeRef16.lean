/-
  The reference's Names; Same of equal lists; few.
-/
import Derived.Test.YtbnddnoognoekaaScopeRef15
set_option linter.unusedVariables false
namespace Go.Proofs.Ytbnddnoognoekaa
open Go.RowKit Go.Maps
attribute [local go_sem] ByteArray.extract_mk

theorem own_mono {w : World} {base base' : Nat} {e : TypeId} {size : Nat} {v : Value} {n : Nat} {xs : List Value} (h : w.ownsRow base e size v n xs) (hb : base' ≤ base) : w.ownsRow base' e size v n xs :=
  ⟨h.1, h.2.imp id fun ⟨g, cap, cur, h1, h2, r⟩ => ⟨g, cap, cur, h1, Nat.le_trans hb h2, r⟩⟩
theorem nms_step_empty (xs : List Nm) (j : Nat) (h : j < xs.length) (h0 : xs[j] = []) : Sc.nms (xs.take (j + 1)) = Sc.nms (xs.take j) := by
  rw [List.take_succ_eq_append_getElem h, h0, Sc.nms_empty]
theorem nms_step (xs : List Nm) (j : Nat) (h : j < xs.length) (h0 : xs[j] ≠ []) : Sc.nms (xs.take (j + 1)) = Sc.nms (xs.take j) ++ [(j, xs[j].tail)] := by
  rw [List.take_succ_eq_append_getElem h, Sc.nms_snoc _ _ h0]
  simp
  omega
theorem two_one {a b : Value} (ha : a.oneCell' = true) (hb : b.oneCell' = true) : ∀ u ∈ (#[a, b] : Array Value).toList, u.oneCell' = true := by
  intro u hu; simp at hu; rcases hu with rfl | rfl <;> assumption
theorem nmCells_snoc (l : List (Nat × Nm)) (p : Nat × Nm) : nmCells (l ++ [p]) = nmCells l ++ [.int .i64 (p.1 : Int), str p.2] := by simp [nmCells]

set_option maxHeartbeats 1000000 in
set_option maxRecDepth 100000 in
theorem rnames_none (vs : Nat → Value) (lv : Value) (k : Int) (W : World) (hr : ¬ (0 ≤ k ∧ k < 9)) :
    Calls Try.prog 28 #[.agg (refCells vs lv), .int .i64 k] W fun e w' => e = .returned (.slice none 0 0) ∧ Below W.heap.size W w' := by
  have his := is_any k
  have e : decide (0 ≤ k ∧ k < 9) = false := by simpa using hr
  rw [e] at his
  have HI := Lib.hid his
  unfold refCells
  clear his e hr
  go_enter Try.func28, Try.ntmps28
  go_wp2_with (go_at_call 35; refine (HI.out _).mono ?_; rintro e w1 ⟨rfl, rfl⟩)
  go_ret
  exact ⟨rfl, (Below.refl _ _).alloc (Nat.le_refl _) _⟩

set_option maxHeartbeats 2000000 in
set_option maxRecDepth 100000 in
theorem rnames_any {W : World} {vs : Nat → Value} {lv : Value} {σ : SSt} (h : RefIs W vs lv σ) (K : Nat) (hK : K < 9) (hll : (σ.k K).length ≤ 1000000) (hx : ∀ x ∈ σ.k K, x.length ≤ 1000000) :
    Calls Try.prog 28 #[.agg (refCells vs lv), .int .i64 (K : Int)] W fun e w' => ∃ A c, e = .returned (.slice A (Sc.nms (σ.k K)).length c) ∧
      w'.ownsRow W.heap.size 61 2 (.slice A (Sc.nms (σ.k K)).length c) (Sc.nms (σ.k K)).length (nmCells (Sc.nms (σ.k K))) ∧ Below W.heap.size W w' := by
  have his := is_any (K : Int)
  have e : decide (0 ≤ (K : Int) ∧ (K : Int) < 9) = true := by simp; omega
  rw [e] at his
  have HI := Lib.hid his
  obtain ⟨A, c, hv, hr⟩ := h.k K hK
  obtain ⟨i0, hi0, hz0, hz1, hz2⟩ := info_parts info_name
  have hcell0 := ref_cell (W := W) (lv := lv) K hK _ hv
  obtain ⟨xs, hxs⟩ : ∃ xs, σ.k K = xs := ⟨_, rfl⟩
  rw [hxs] at hv hr hll hx hcell0 ⊢
  unfold refCells
  have hr1 : RdS (W.alloc (.cells #[vs 0, vs 1, vs 2, vs 3, vs 4, vs 5, vs 6, vs 7, vs 8, lv] 39)) W.heap.size A xs := Reads.alloc hr (Nat.le_refl _) _
  have hb1 : Below W.heap.size W (W.alloc (.cells #[vs 0, vs 1, vs 2, vs 3, vs 4, vs 5, vs 6, vs 7, vs 8, lv] 39)) := (Below.refl _ _).alloc (Nat.le_refl _) _
  have hs1 : (W.alloc (.cells #[vs 0, vs 1, vs 2, vs 3, vs 4, vs 5, vs 6, vs 7, vs 8, lv] 39)).heap.size = W.heap.size + 1 := by simp
  generalize hW : W.alloc (.cells #[vs 0, vs 1, vs 2, vs 3, vs 4, vs 5, vs 6, vs 7, vs 8, lv] 39) = W1 at hcell0 hr1 hb1 hs1
  have HX := Lib.hid hx
  have HS := Lib.hid hs1
  have k0 : (0 : Int) ≤ (K : Int) := Int.natCast_nonneg _
  have k9 : (K : Int) < 9 := by omega
  clear his e hv hr hxs hx hs1
  go_enter Try.func28, Try.ntmps28
  go_wp2_with (go_at_call 35; refine (HI.out _).mono ?_; rintro e w1 ⟨rfl, rfl⟩)
  go_loopw [5, 6] (fun v i wr => ∃ j : Nat, j ≤ xs.length ∧ i = .int .i64 j ∧ wr.ownsRow (W.heap.size + 1) 61 2 v (Sc.nms (xs.take j)).length (nmCells (Sc.nms (xs.take j))) ∧ Below (W.heap.size + 1) W1 wr) (fun _ i _ => xs.length - (intOf i).toNat)
  case atStart => exact ⟨0, by omega, rfl, nil_row _ _ _ _, Below.refl _ _⟩
  case round =>
    obtain ⟨j, hj, rfl, hown, hb⟩ := hrel
    have hcell : wr.cell? ⟨W.heap.size, K, none⟩ = some (.slice A xs.length c) := (hb.cell (p := ⟨W.heap.size, K, none⟩) (by simp)).trans hcell0
    have hsz : W.heap.size + 1 ≤ wr.heap.size := by have := hb.size; rw [HS.out] at this; exact this
    have hnl := Sc.nms_len (xs.take j)
    obtain ⟨Av, cv, hv⟩ : ∃ Av cv, u5 = .slice Av (Sc.nms (xs.take j)).length cv := by
      rcases hown.2 with ⟨h1, h2⟩ | ⟨g, cap, cur, h1, _⟩
      · exact ⟨none, 0, by rw [h1, h2]⟩
      · exact ⟨_, cap, h1⟩
    subst hv
    by_cases hjl : j < xs.length
    · obtain ⟨ad, rfl, hblk, hc0⟩ := hr1.at_ hjl
      have hcx := (hb.cell (p := ad.add j) (by rw [block_of_add]; omega)).trans hc0
      have hlx := HX.out xs[j] (List.getElem_mem _)
      have j0 : (0 : Int) ≤ (j : Int) := Int.natCast_nonneg _
      have j1 : (j : Int) < (xs.length : Int) := by omega
      by_cases hx0 : xs[j] = []
      · have HE := Lib.hid (nms_step_empty xs j hjl hx0)
        rw [hx0] at hcx
        clear hc0 hlx hx0
        go_wp2
        go_roundw
        case rel => exact ⟨j + 1, by omega, by go_num, by rw [HE.out]; exact hown, hb⟩
        case measure => simp [intOf]; omega
      · have HE := Lib.hid (nms_step xs j hjl hx0)
        have q1 : (1 : Int) ≤ (xs[j].length : Int) := by have := List.length_pos_iff.2 hx0; omega
        have hbe : List.isEmpty xs[j] = false := by cases hh : xs[j] <;> simp [hh] at hx0 ⊢
        obtain ⟨x, hxx⟩ : ∃ x, xs[j] = x := ⟨_, rfl⟩
        rw [hxx] at hcx hlx q1 hbe HE
        have htl : x.tail.length = x.length - 1 := by simp
        have HTL : Hid (List.take (x.length - 1) x.tail = x.tail) := Lib.hid (List.take_of_length_le (by simp))
        have hnl2 : (Sc.nms (xs.take j)).length ≤ 1000000 := by simp at hnl; omega
        clear hc0 hx0 hxx htl
        go_wp2_with (at_builtin; (refine app_one _ _ rfl (.tmp 29) (.tmp 34) 53 rfl (W.heap.size + 1) 61 i0 _ 2 24 Try.underlying53 hi0 hz0 hz1 hz2 rfl (by omega) rfl (by exact two_one rfl rfl) _ (Sc.nms (xs.take j)).length _ rfl hown wr.heap.size rfl rfl (by omega) (by omega) (by omega) ?_); intro A5 c5 w5 hown5 hg5 hat5)
        have hrel2 : w5.ownsRow (W.heap.size + 1) 61 2 (.slice A5 ((Sc.nms (xs.take j)).length + 1) c5) (Sc.nms (xs.take (j + 1))).length (nmCells (Sc.nms (xs.take (j + 1)))) := by
          rw [HE.out, nmCells_snoc, List.length_append]
          simpa [str, HTL.out] using hown5
        have hbb := hb.trans (below_own hown hg5 hsz)
        clear hown5 hown hg5 hat5
        go_roundw
        case rel => exact ⟨j + 1, by omega, by go_num, hrel2, hbb⟩
        case measure => simp [intOf]; omega
    · obtain rfl : j = xs.length := by omega
      rw [List.take_length] at hown
      go_wp2
      go_ret
      simp only [List.take_length]
      exact ⟨Av, cv, rfl, own_mono hown (by omega), hb1.trans (hb.mono (by omega))⟩

theorem nmCells_at (L : List (Nat × Nm)) (j : Nat) (h : j < L.length) : (nmCells L)[j * 2]? = some (.int .i64 (L[j].1 : Int)) ∧ (nmCells L)[j * 2 + 1]? = some (str L[j].2) := by
  induction L generalizing j with
  | nil => simp at h
  | cons p L ih =>
    cases j with
    | zero => exact ⟨rfl, rfl⟩
    | succ j =>
      have := ih j (by simpa using h)
      rw [show (j + 1) * 2 = j * 2 + 1 + 1 from by omega]
      simpa [nmCells] using this
/-- The two cells of an entry. -/
theorem nm_at {w : World} {B : Nat} {A : Option Addr} {c : Nat} {L : List (Nat × Nm)} {j : Nat} (h : w.ownsRow B 61 2 (.slice A L.length c) L.length (nmCells L)) (hj : j < L.length) :
    ∃ g, A = some ⟨g, 0, none⟩ ∧ w.cell? ⟨g, j * 2, none⟩ = some (.int .i64 (L[j].1 : Int)) ∧ w.cell? ⟨g, j * 2 + 1, none⟩ = some (.string ⟨L[j].2.toArray⟩) := by
  obtain ⟨g, cap, hv, _, _⟩ := h.form (by omega)
  injection hv with hA _ hc
  subst hA hc
  refine ⟨g, rfl, ?_, ?_⟩
  · rw [h.cellAt _ (by omega)]; exact (nmCells_at L j hj).1
  · rw [h.cellAt _ (by omega)]; exact (nmCells_at L j hj).2
set_option maxHeartbeats 1000000 in
set_option maxRecDepth 100000 in
theorem same_eq (L : List (Nat × Nm)) (A1 A2 : Option Addr) (c1 c2 : Nat) (w : World) (B1 B2 : Nat) (h1 : w.ownsRow B1 61 2 (.slice A1 L.length c1) L.length (nmCells L)) (h2 : w.ownsRow B2 61 2 (.slice A2 L.length c2) L.length (nmCells L)) (hl : L.length ≤ 1000000) :
    Calls Try.prog 26 #[.slice A1 L.length c1, .slice A2 L.length c2] w fun e w' => e = .returned (.bool true) ∧ ∃ q, w' = w.drewN q := by
  have hne : ((L.length : Int) != (L.length : Int)) = false := by simp
  go_enter Try.func26, Try.ntmps26
  go_wp2
  go_loopw [5] (fun i wr => ∃ j q : Nat, j ≤ L.length ∧ i = .int .i64 j ∧ wr = w.drewN q) (fun i _ => L.length - (intOf i).toNat)
  case atStart => exact ⟨0, 0, by omega, rfl, rfl⟩
  case round =>
    obtain ⟨j, q, hj, rfl, rfl⟩ := hrel
    by_cases hjl : j < L.length
    · obtain ⟨a1, rfl, x1, y1⟩ := nm_at h1 hjl
      obtain ⟨a2, rfl, x2, y2⟩ := nm_at h2 hjl
      have j0 : (0 : Int) ≤ (j : Int) := Int.natCast_nonneg _
      have j1 : (j : Int) < (L.length : Int) := by omega
      go_wp2
      go_region
      all_goals
        go_wp2
        go_roundw
        case rel => exact ⟨j + 1, _, by omega, by go_num, rfl⟩
        case measure => simp [intOf]; omega
    · obtain rfl : j = L.length := by omega
      go_wp2
      go_ret
      exact ⟨rfl, q, rfl⟩

/-- One call of the law's list. -/
structure ActV where
  c : Int
  k : Int
  t : Nm
def actCells (l : List ActV) : List Value := l.flatMap (fun p => [.int .i64 p.c, .int .i64 p.k, str p.t])
theorem actCells_len (l : List ActV) : (actCells l).length = l.length * 3 := by
  induction l with
  | nil => rfl
  | cons p l ih => rw [show actCells (p :: l) = [.int .i64 p.c, .int .i64 p.k, str p.t] ++ actCells l from rfl, List.length_append, ih]; simp; omega
theorem actCells_at (L : List ActV) (j : Nat) (h : j < L.length) : (actCells L)[j * 3]? = some (.int .i64 L[j].c) ∧ (actCells L)[j * 3 + 1]? = some (.int .i64 L[j].k) ∧ (actCells L)[j * 3 + 2]? = some (str L[j].t) := by
  induction L generalizing j with
  | nil => simp at h
  | cons p L ih =>
    cases j with
    | zero => exact ⟨rfl, rfl, rfl⟩
    | succ j =>
      have := ih j (by simpa using h)
      rw [show (j + 1) * 3 = j * 3 + 1 + 1 + 1 from by omega]
      simpa [actCells] using this
def RdA (w : World) (B : Nat) (A : Option Addr) (l : List ActV) : Prop := Reads w B 3 A l.length (actCells l)
theorem RdA.below {w w' : World} {B : Nat} {A : Option Addr} {l : List ActV} (h : RdA w B A l) (hb : Below B w w') : RdA w' B A l := Reads.below h hb
theorem RdA.at_ {w : World} {B : Nat} {A : Option Addr} {L : List ActV} {j : Nat} (h : RdA w B A L) (hj : j < L.length) :
    ∃ ad, A = some ad ∧ ad.block < B ∧ w.cell? (ad.add (j * 3)) = some (.int .i64 L[j].c) ∧ w.cell? ⟨(ad.add (j * 3)).block, (ad.add (j * 3)).off + 1, none⟩ = some (.int .i64 L[j].k) ∧ w.cell? ⟨(ad.add (j * 3)).block, (ad.add (j * 3)).off + 2, none⟩ = some (.string ⟨L[j].t.toArray⟩) := by
  obtain ⟨ad, e, hb, hc⟩ := h.2 (by omega)
  obtain ⟨x1, x2, x3⟩ := actCells_at L j hj
  have a1 : ∀ m, ad.add (j * 3 + (m + 1)) = ⟨(ad.add (j * 3)).block, (ad.add (j * 3)).off + (m + 1), none⟩ := by
    intro m
    unfold Addr.add
    rw [if_neg (by omega)]
    split
    · rename_i h0; rw [h0]; simp
    · simp; omega
  exact ⟨ad, e, hb, hc _ _ x1, by rw [← a1 0]; exact hc _ _ x2, by rw [← a1 1]; exact hc _ _ x3⟩
def fewL (l : List ActV) : Bool := l.all (fun p => decide (p.t.length ≤ 40)) && decide (l.length ≤ 80)

set_option maxHeartbeats 1000000 in
set_option maxRecDepth 100000 in
theorem few_any (l : List ActV) (A : Option Addr) (c : Nat) (w : World) (hr : RdA w w.heap.size A l) (hl : l.length ≤ 9223372036854775807) :
    Calls Try.prog 16 #[.slice A l.length c] w fun e w' => (∃ b : Bool, e = .returned (.bool b) ∧ (b = true → fewL l = true)) ∧ w = w' := by
  by_cases hl80 : l.length ≤ 80
  · have g80 : decide ((l.length : Int) ≤ 80) = true := by simp; omega
    go_enter Try.func16, Try.ntmps16
    go_wp2
    go_loopw [3] (fun i wr => ∃ j : Nat, j ≤ l.length ∧ i = .int .i64 j ∧ (l.take j).all (fun p => decide (p.t.length ≤ 40)) = true ∧ wr = w) (fun i _ => l.length - (intOf i).toNat)
    case atStart => exact ⟨0, by omega, rfl, by simp, rfl⟩
    case round =>
      obtain ⟨j, hj, rfl, hall, rfl⟩ := hrel
      have HA := Lib.hid hall
      clear hall
      by_cases hjl : j < l.length
      · obtain ⟨ad, rfl, hb, x1, x2, x3⟩ := hr.at_ hjl
        have j0 : (0 : Int) ≤ (j : Int) := Int.natCast_nonneg _
        have j1 : (j : Int) < (l.length : Int) := by omega
        have g1 : decide (j < l.length) = true := by simpa using hjl
        have g2 : decide ((j : Int) < 100) = true := by simp; omega
        have HT := Lib.hid (List.take_succ_eq_append_getElem hjl)
        obtain ⟨p, hp⟩ : ∃ p, l[j] = p := ⟨_, rfl⟩
        rw [hp] at x1 x2 x3 HT
        clear hp
        by_cases h40 : p.t.length ≤ 40
        · have g3 : decide ((40 : Int) < (p.t.length : Int)) = false := by simp; omega
          go_wp2
          go_roundw
          case rel => exact ⟨j + 1, by omega, by go_num, by rw [HT.out, List.all_append, HA.out]; simpa using h40, trivial⟩
          case measure => simp [intOf]; omega
        · have g3 : decide ((40 : Int) < (p.t.length : Int)) = true := by simp; omega
          go_wp2
          go_ret
          exact ⟨⟨false, rfl, fun h => by cases h⟩, rfl⟩
      · obtain rfl : j = l.length := by omega
        have g1 : decide (l.length < l.length) = false := by simp
        go_wp2
        go_ret
        have := HA.out
        rw [List.take_length] at this
        exact ⟨⟨_, rfl, fun _ => by unfold fewL; rw [this]; simpa using hl80⟩, rfl⟩
  · have g80 : decide ((l.length : Int) ≤ 80) = false := by simp; omega
    go_enter Try.func16, Try.ntmps16
    go_wp2
    go_loopw [3] (fun i wr => ∃ j : Nat, j ≤ l.length ∧ i = .int .i64 j ∧ j ≤ 100 ∧ wr = w) (fun i _ => l.length - (intOf i).toNat)
    case atStart => exact ⟨0, by omega, rfl, by omega, rfl⟩
    case round =>
      obtain ⟨j, hj, rfl, hj100, rfl⟩ := hrel
      by_cases hjl : j < l.length ∧ j < 100
      · obtain ⟨hjl, hj1⟩ := hjl
        obtain ⟨ad, rfl, hb, x1, x2, x3⟩ := hr.at_ hjl
        have j0 : (0 : Int) ≤ (j : Int) := Int.natCast_nonneg _
        have j1 : (j : Int) < (l.length : Int) := by omega
        have g1 : decide (j < l.length) = true := by simpa using hjl
        have g2 : decide ((j : Int) < 100) = true := by simp; omega
        obtain ⟨p, hp⟩ : ∃ p, l[j] = p := ⟨_, rfl⟩
        rw [hp] at x1 x2 x3
        clear hp
        by_cases h40 : p.t.length ≤ 40
        · have g3 : decide ((40 : Int) < (p.t.length : Int)) = false := by simp; omega
          go_wp2
          go_roundw
          case rel => exact ⟨j + 1, by omega, by go_num, by omega, trivial⟩
          case measure => simp [intOf]; omega
        · have g3 : decide ((40 : Int) < (p.t.length : Int)) = true := by simp; omega
          go_wp2
          go_ret
          exact ⟨⟨false, rfl, fun h => by cases h⟩, rfl⟩
      · by_cases hjl2 : j < l.length
        · have g1 : decide (j < l.length) = true := by simpa using hjl2
          have g2 : decide ((j : Int) < 100) = false := by simp; omega
          clear hjl
          go_wp2
          go_ret
          exact ⟨⟨false, rfl, fun h => by cases h⟩, rfl⟩
        · have g1 : decide (j < l.length) = false := by simpa using hjl2
          clear hjl
          go_wp2
          go_ret
          exact ⟨⟨false, rfl, fun h => by cases h⟩, rfl⟩
end Go.Proofs.Ytbnddnoognoekaa
