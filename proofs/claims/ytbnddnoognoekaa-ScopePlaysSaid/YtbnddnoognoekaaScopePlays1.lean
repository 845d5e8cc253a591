/-
  ScopePlays: the program's Scope beside the reference's, as the world holds them.
-/
import Derived.Test.YtbnddnoognoekaaScopeRef16
set_option linter.unusedVariables false
namespace Go.Proofs.Ytbnddnoognoekaa
open Go.RowKit Go.Maps

/-! ### plain -/
/-- Names that are not empty stand once. -/
def Uq (xs : List Nm) : Prop := ∀ i j (hi : i < xs.length) (hj : j < xs.length), xs[i] ≠ [] → xs[i] = xs[j] → i = j
theorem Uq.nil : Uq [] := fun i j hi => by simp at hi
theorem find_eq_some {xs : List Nm} {t : Nm} {i : Nat} (h : Sc.find xs t = some i) : ∃ hi : i < xs.length, xs[i] = t := by
  unfold Sc.find at h
  split at h
  · cases h
  · rw [List.findIdx?_eq_some_iff_getElem] at h
    obtain ⟨h1, h2, _⟩ := h
    exact ⟨h1, by simpa using h2⟩
theorem find_eq_none {xs : List Nm} {t : Nm} (ht : t ≠ []) (h : Sc.find xs t = none) (i : Nat) (hi : i < xs.length) : xs[i] ≠ t := by
  unfold Sc.find at h
  rw [if_neg ht, List.findIdx?_eq_none_iff] at h
  have := h xs[i] (List.getElem_mem _)
  simpa using this
theorem place_none {xs : List Nm} {t : Nm} (ht : t ≠ []) (h : Sc.find xs t = none) : placeF xs t = -1 := by
  unfold placeF
  rw [labF_none (fun j hj => find_eq_none ht h _ _)]
theorem place_some {xs : List Nm} {t : Nm} (hu : Uq xs) (ht : t ≠ []) {i : Nat} (h : Sc.find xs t = some i) : placeF xs t = (i : Int) := by
  obtain ⟨hi, he⟩ := find_eq_some h
  unfold placeF
  have hl : labF xs t = some (xs.length - 1 - i) := labF_some (by omega) (fun j hj e => by
    have := hu i (xs.length - 1 - j) hi (by omega) (by rw [he]; exact ht) (by rw [he]; exact e.symm)
    omega) (by
    have e1 : xs.length - 1 - (xs.length - 1 - i) = i := by omega
    simp only [e1]; exact he)
  rw [hl]
  dsimp only
  omega
theorem rfin_fin {xs : List Nm} {t : Nm} (hu : Uq xs) (ht : t ≠ []) : rfinF (placeF xs t) = finF (Sc.find xs t) := by
  unfold rfinF finF
  cases h : Sc.find xs t with
  | none => rw [place_none ht h]; rfl
  | some i => rw [place_some hu ht h, if_neg (by omega)]
theorem Uq.empty {xs : List Nm} (h : Uq xs) : Uq (xs ++ [[]]) := by
  intro i j hi hj hne he
  have lt : ∀ k (hk : k < (xs ++ [[]]).length), (xs ++ [[]])[k] ≠ [] → k < xs.length := by
    intro k hk hn
    by_cases h1 : k < xs.length
    · exact h1
    · exfalso; apply hn; rw [List.getElem_append_right (by omega)]; simp
  have h1 := lt i hi hne
  have h2 := lt j hj (by rw [← he]; exact hne)
  rw [List.getElem_append_left h1, List.getElem_append_left h2] at he
  rw [List.getElem_append_left h1] at hne
  exact h i j h1 h2 hne he
theorem Uq.snoc {xs : List Nm} (h : Uq xs) (t : Nm) (ht : t ≠ []) (hf : Sc.find xs t = none) : Uq (xs ++ [t]) := by
  have hno := find_eq_none ht hf
  have at_ : ∀ k (hk : k < (xs ++ [t]).length), (k < xs.length ∧ ∃ h1 : k < xs.length, (xs ++ [t])[k] = xs[k]) ∨ (k = xs.length ∧ (xs ++ [t])[k] = t) := by
    intro k hk
    by_cases h1 : k < xs.length
    · exact .inl ⟨h1, h1, List.getElem_append_left h1⟩
    · have : k = xs.length := by simp at hk; omega
      subst this
      exact .inr ⟨rfl, by simp⟩
  intro i j hi hj hne he
  rcases at_ i hi with ⟨_, h1, e1⟩ | ⟨h1, e1⟩ <;> rcases at_ j hj with ⟨_, h2, e2⟩ | ⟨h2, e2⟩
  · rw [e1] at hne; rw [e1, e2] at he; exact h i j h1 h2 hne he
  · rw [e1, e2] at he; exact absurd he (hno i h1)
  · rw [e1, e2] at he; exact absurd he.symm (hno j h2)
  · omega
structure GoodS (σ : SSt) (n : Nat) : Prop where
  u : ∀ j, j < 9 → Uq (σ.k j)
  kl : ∀ j, j < 9 → (σ.k j).length ≤ n
  nl : ∀ j, j < 9 → ∀ x ∈ σ.k j, x.length ≤ 40
  ll : σ.lab.length ≤ n
theorem GoodS.upd {σ : SSt} {n : Nat} (h : GoodS σ n) (K : Nat) (xs : List Nm) (hu : Uq xs) (hl : xs.length ≤ n + 1) (hx : ∀ x ∈ xs, x.length ≤ 40) : GoodS ⟨upd σ.k K xs, σ.lab⟩ (n + 1) := by
  refine ⟨fun j hj => ?_, fun j hj => ?_, fun j hj => ?_, by have := h.ll; dsimp only; omega⟩
  all_goals
    dsimp only
    by_cases e : j = K
    · subst e; rw [upd_same]; assumption
    · rw [upd_other _ _ _ e]
      first
        | exact h.u j hj
        | exact h.nl j hj
        | (have := h.kl j hj; omega)
theorem GoodS.more {σ : SSt} {n : Nat} (h : GoodS σ n) : GoodS σ (n + 1) := ⟨h.u, fun j hj => by have := h.kl j hj; omega, h.nl, by have := h.ll; omega⟩
theorem GoodS.lab {σ : SSt} {n : Nat} (h : GoodS σ n) (l : List Nm) (hl : l.length ≤ n + 1) : GoodS ⟨σ.k, l⟩ (n + 1) := ⟨h.u, fun j hj => by have := h.kl j hj; dsimp only; omega, h.nl, hl⟩

/-! ### the world -/
theorem setRow_grown (W : World) (g : Nat) (cs : Array Value) : W.grownBy (W.setRow g cs) (some g) :=
  ⟨rfl, rfl, rfl, by simp, fun k _ hne => setRow_other W g k cs (fun e => hne (by rw [e]))⟩
theorem Below.setRow {W W' : World} {B g : Nat} (h : Below B W W') (hg : B ≤ g) (hs : B ≤ W'.heap.size) (cs : Array Value) : Below B W (W'.setRow g cs) :=
  h.grown (setRow_grown W' g cs) hs (fun k hk => by injection hk with hk; omega)
theorem RdS.same {W W' : World} {B B' : Nat} {A : Option Addr} {l : List Nm} (h : RdS W B A l) (hb : ∀ g, A.map (·.block) = some g → W'.heap[g]? = W.heap[g]?) (hB : B ≤ B') : RdS W' B' A l :=
  ⟨h.1, fun hn => by
    obtain ⟨ad, e, h1, hc⟩ := h.2 hn
    subst e
    refine ⟨ad, rfl, by omega, fun j u hu => ?_⟩
    have hb' : W'.heap[(ad.add j).block]? = W.heap[(ad.add j).block]? := by rw [block_of_add]; exact hb _ rfl
    exact (World.cell?_of_block hb').trans (hc j u hu)⟩
theorem own_slice_block (A : Option Addr) (n c : Nat) : (Value.slice A n c).ownBlock = A.map (·.block) := by cases A <;> rfl
theorem RefIs.same {W W' : World} {vs : Nat → Value} {lv : Value} {σ : SSt} (h : RefIs W vs lv σ) (hk : ∀ j, j < 9 → ∀ g, (vs j).ownBlock = some g → W'.heap[g]? = W.heap[g]?) (hl : ∀ g, lv.ownBlock = some g → W'.heap[g]? = W.heap[g]?) (hs : W.heap.size ≤ W'.heap.size) : RefIs W' vs lv σ := by
  refine ⟨fun j hj => ?_, ?_⟩
  · obtain ⟨A, c, e, hr⟩ := h.k j hj
    exact ⟨A, c, e, hr.same (fun g hg => hk j hj g (by rw [e, own_slice_block]; exact hg)) hs⟩
  · obtain ⟨A, c, e, hr, hc⟩ := h.l
    exact ⟨A, c, e, hr.same (fun g hg => hl g (by rw [e, own_slice_block]; exact hg)) hs, hc⟩

def Far (W : World) (y : Lay) (B X g : Nat) : Prop := ¬ foot y (B + 1) g ∧ g ≠ X ∧ g < W.heap.size
structure Mid (w W : World) (B X : Nat) (y : Lay) (σ ρ : SSt) (vs : Nat → Value) (lv : Value) : Prop where
  sc : ScopeAt W B (B + 1) y σ
  box : W.heap[X]? = some (.cells (refCells vs lv) 39 (0, 0))
  ref : RefIs W vs lv ρ
  sepk : ∀ j, j < 9 → ∀ g, (vs j).ownBlock = some g → Far W y B X g
  sepl : ∀ g, lv.ownBlock = some g → Far W y B X g
  hx : B ≤ X
  bel : Below B w W
theorem not_foot {W : World} {B s X t : Nat} {y : Lay} {σ : SSt} (h : ScopeAt W B s y σ) (hX : tagAt W X = some (t + 1)) (h1 : t ≠ 58) (h2 : t ≠ 65) (h3 : t ≠ 61) (h4 : t ≠ 9) : ¬ foot y s X := by
  rintro (e | e | e | ⟨k, hk, e | e | e⟩)
  · exact ne_tag hX h.ts (by omega) e
  · exact ne_tag hX h.ta (by omega) e
  · exact absurd rfl (ne_tag hX (h.tl e) (by omega))
  · exact ne_tag hX (h.tp hk) (by omega) e
  · exact ne_tag hX (h.tm hk) (by omega) e
  · exact absurd rfl (ne_tag hX (h.tn hk e) (by omega))
section
variable {w W : World} {B X : Nat} {y : Lay} {σ ρ : SSt} {vs : Nat → Value} {lv : Value}
theorem Mid.xfoot (h : Mid w W B X y σ ρ vs lv) : ¬ foot y (B + 1) X := not_foot h.sc (tag_cells h.box) (by decide) (by decide) (by decide) (by decide)
theorem Mid.size (h : Mid w W B X y σ ρ vs lv) : B ≤ W.heap.size := by have := (h.sc.foot_in (b := B + 1) (.inl rfl)).2; omega
theorem Mid.turned (h : Mid w W B X y σ ρ vs lv) {W' : World} {y' : Lay} {σ' : SSt} (h2 : ScopeAt W' B (B + 1) y' σ') (t : Turned W W' B (B + 1) y y') : Mid w W' B X y' σ' ρ vs lv := by
  have far : ∀ g, Far W y B X g → Far W' y' B X g := fun g hg => ⟨fun hf => by
    rcases t.new g hf with h1 | h1
    · exact hg.1 h1
    · have := hg.2.2; omega, hg.2.1, Nat.lt_of_lt_of_le hg.2.2 t.bel.size⟩
  exact ⟨h2, (t.far X (lt_of_heap h.box) h.xfoot).trans h.box,
    h.ref.same (fun j hj g hg => t.far g (h.sepk j hj g hg).2.2 (h.sepk j hj g hg).1) (fun g hg => t.far g (h.sepl g hg).2.2 (h.sepl g hg).1) t.bel.size,
    fun j hj g hg => far g (h.sepk j hj g hg), fun g hg => far g (h.sepl g hg), h.hx, h.bel.trans t.bel⟩
theorem Mid.below (h : Mid w W B X y σ ρ vs lv) {W' : World} (hb : Below W.heap.size W W') : Mid w W' B X y σ ρ vs lv :=
  h.turned (h.sc.below hb) (Turned.of_below h.sc hb)
/-- The reference's call has ended and its result is stored. -/
theorem Mid.stored (h : Mid w W B X y σ ρ vs lv) {W' : World} {vs' : Nat → Value} {lv' : Value} {ρ' : SSt} (hb : Below W.heap.size W W') (hr : RefIs W' vs' lv' ρ') (hk : ∀ j, NewOr W W' (vs j) (vs' j)) (hl : NewOr W W' lv lv') :
    Mid w (W'.setRow X (refCells vs' lv')) B X y σ ρ' vs' lv' := by
  have h' := h.below hb
  have hX := lt_of_heap h.box
  have key : ∀ (v v' : Value), NewOr W W' v v' → (∀ g, v.ownBlock = some g → Far W y B X g) → ∀ g, v'.ownBlock = some g → Far W' y B X g := fun v v' hn hf g hg => by
    rcases hn g hg with h1 | h1
    · exact ⟨fun hff => by have := (h.sc.foot_in hff).2; omega, by omega, h1.2⟩
    · exact ⟨(hf g h1).1, (hf g h1).2.1, Nat.lt_of_lt_of_le (hf g h1).2.2 hb.size⟩
  have kk : ∀ j, j < 9 → ∀ g, (vs' j).ownBlock = some g → Far W' y B X g := fun j hj => key _ _ (hk j) (h.sepk j hj)
  have kl : ∀ g, lv'.ownBlock = some g → Far W' y B X g := key _ _ hl h.sepl
  have far : ∀ g, Far W' y B X g → Far (W'.setRow X (refCells vs' lv')) y B X g := fun g hg => ⟨hg.1, hg.2.1, by simpa using hg.2.2⟩
  refine ⟨h'.sc.same (fun b hf => setRow_other _ _ _ _ (fun e => h'.xfoot (e ▸ hf))), setRow_heap _ _ _ _ _ _ h'.box,
    hr.same (fun j hj g hg => setRow_other _ _ _ _ (kk j hj g hg).2.1) (fun g hg => setRow_other _ _ _ _ (kl g hg).2.1) (by simp),
    fun j hj g hg => far g (kk j hj g hg), fun g hg => far g (kl g hg), h.hx, Below.setRow h'.bel h.hx h'.size _⟩
end
theorem NewOr.later {W W' W2 : World} {v v' : Value} (h : NewOr W W' v v') (hs : W'.heap.size ≤ W2.heap.size) : NewOr W W2 v v' := fun g hg => by
  rcases h g hg with h1 | h1
  · exact .inl ⟨h1.1, by omega⟩
  · exact .inr h1
theorem refCells_one (W : World) (vs : Nat → Value) (lv : Value) (σ : SSt) (h : RefIs W vs lv σ) : (refCells vs lv).all (·.oneCell') = true := by
  obtain ⟨A, c, e, _⟩ := h.l
  obtain ⟨A0, c0, e0, _⟩ := h.k 0 (by omega)
  obtain ⟨A1, c1, e1, _⟩ := h.k 1 (by omega)
  obtain ⟨A2, c2, e2, _⟩ := h.k 2 (by omega)
  obtain ⟨A3, c3, e3, _⟩ := h.k 3 (by omega)
  obtain ⟨A4, c4, e4, _⟩ := h.k 4 (by omega)
  obtain ⟨A5, c5, e5, _⟩ := h.k 5 (by omega)
  obtain ⟨A6, c6, e6, _⟩ := h.k 6 (by omega)
  obtain ⟨A7, c7, e7, _⟩ := h.k 7 (by omega)
  obtain ⟨A8, c8, e8, _⟩ := h.k 8 (by omega)
  unfold refCells
  rw [e, e0, e1, e2, e3, e4, e5, e6, e7, e8]
  rw [Array.all_eq_true_iff_forall_mem]
  intro x hx
  simp at hx
  rcases hx with rfl | rfl | rfl | rfl | rfl | rfl | rfl | rfl | rfl | rfl <;> rfl
end Go.Proofs.Ytbnddnoognoekaa
