/-
  ScopePlays: each call of the program's Scope beside the reference's.
-/
import Derived.Test.YtbnddnoognoekaaScopePlays1
import Derived.Test.YtbnddnoognoekaaScopePlays0
set_option linter.unusedVariables false
namespace Go.Proofs.Ytbnddnoognoekaa
open Go.RowKit Go.Maps

theorem below_drewN (W : World) (q : Nat) : Below W.heap.size W (W.drewN q) := ⟨rfl, rfl, rfl, Nat.le_refl _, fun _ _ => rfl⟩
def ProgWay (W : World) (B : Nat) (y : Lay) (f : Nat) (args : Array Value) (R : Value) (σ' : SSt) : Prop :=
  Calls Try.prog f args W fun e w' => e = .returned R ∧ ∃ y', ScopeAt w' B (B + 1) y' σ' ∧ Turned W w' B (B + 1) y y'
def RefWay (f : Nat) (vs : Nat → Value) (lv : Value) (σ : SSt) (args : List Value) (R : Value → Value) (σ' : SSt) : Prop :=
  ∀ W', RefIs W' vs lv σ → Calls Try.prog f (.agg (refCells vs lv) :: args).toArray W' fun e w' => ∃ vs' lv', e = .returned (R (.agg (refCells vs' lv'))) ∧ RefIs w' vs' lv' σ' ∧ Below W'.heap.size W' w' ∧ (∀ j, NewOr W' w' (vs j) (vs' j)) ∧ NewOr W' w' lv lv'
section
variable {W : World} {B s : Nat} {y : Lay} {σ : SSt}
theorem ProgWay.same (h : ScopeAt W B (B + 1) y σ) {f : Nat} {args : Array Value} {R : Value} (hc : Calls Try.prog f args W fun e w' => e = .returned R ∧ W = w') : ProgWay W B y f args R σ :=
  hc.mono fun _ _ ⟨he, hw⟩ => ⟨he, y, hw ▸ h, hw ▸ Turned.of_below h (Below.refl _ _)⟩
theorem ProgWay.drewn (h : ScopeAt W B (B + 1) y σ) {f : Nat} {args : Array Value} {R : Value} (hc : Calls Try.prog f args W fun e w' => e = .returned R ∧ ∃ q, w' = W.drewN q) : ProgWay W B y f args R σ :=
  hc.mono fun _ _ ⟨he, q, hw⟩ => ⟨he, y, hw ▸ h.below (below_drewN W q), hw ▸ Turned.of_below h (below_drewN W q)⟩
end
theorem RefWay.same {f : Nat} {vs : Nat → Value} {lv : Value} {σ : SSt} {args : List Value} {R : Value → Value}
    (hc : ∀ W', RefIs W' vs lv σ → Calls Try.prog f (.agg (refCells vs lv) :: args).toArray W' fun e w' => e = .returned (R (.agg (refCells vs lv))) ∧ Below W'.heap.size W' w') : RefWay f vs lv σ args R σ :=
  fun W' h => (hc W' h).mono fun _ _ ⟨he, hb⟩ => ⟨vs, lv, he, h.below hb, hb, fun j => NewOr.refl _ _ _, NewOr.refl _ _ _⟩
theorem RefWay.ks {f : Nat} {vs : Nat → Value} {lv : Value} {σ σ' : SSt} {args : List Value} {R : Value → Value}
    (hc : ∀ W', RefIs W' vs lv σ → Calls Try.prog f (.agg (refCells vs lv) :: args).toArray W' fun e w' => ∃ vs', e = .returned (R (.agg (refCells vs' lv))) ∧ RefIs w' vs' lv σ' ∧ Below W'.heap.size W' w' ∧ ∀ j, NewOr W' w' (vs j) (vs' j)) : RefWay f vs lv σ args R σ' :=
  fun W' h => (hc W' h).mono fun _ _ ⟨vs', he, hr, hb, hn⟩ => ⟨vs', lv, he, hr, hb, hn, NewOr.refl _ _ _⟩
theorem RefWay.labs {f : Nat} {vs : Nat → Value} {lv : Value} {σ σ' : SSt} {args : List Value} {R : Value → Value}
    (hc : ∀ W', RefIs W' vs lv σ → Calls Try.prog f (.agg (refCells vs lv) :: args).toArray W' fun e w' => ∃ lv', e = .returned (R (.agg (refCells vs lv'))) ∧ RefIs w' vs lv' σ' ∧ Below W'.heap.size W' w' ∧ NewOr W' w' lv lv') : RefWay f vs lv σ args R σ' :=
  fun W' h => (hc W' h).mono fun _ _ ⟨lv', he, hr, hb, hn⟩ => ⟨vs, lv', he, hr, hb, fun j => NewOr.refl _ _ _, hn⟩

theorem add_ways {W : World} {B : Nat} {y : Lay} {σ : SSt} {n : Nat} (vs : Nat → Value) (lv : Value) (h : ScopeAt W B (B + 1) y σ) (hg : GoodS σ n) (hn : n ≤ 1000) (k : Int) (hk : (Lit.int .i64 k).wf = true) (t : Nm) (hl : t.length ≤ 40) :
    ∃ (a e : Int) (σ' : SSt), GoodS σ' (n + 1) ∧ ProgWay W B y 9 #[.pointer (some ⟨B + 1, 0, none⟩), .int .i64 k, .string ⟨t.toArray⟩] (.tuple #[.int .i64 a, .int .i64 e]) σ' ∧
      RefWay 18 vs lv σ [.int .i64 k, .string ⟨t.toArray⟩] (fun v => .tuple #[v, .int .i64 a, .int .i64 e]) σ' := by
  by_cases hr : 0 ≤ k ∧ k < 9
  · have hkl := hg.kl k.toNat (by omega)
    have hkn : ((k.toNat : Nat) : Int) = k := by omega
    by_cases h0 : t = []
    · subst h0
      exact ⟨_, 0, _, hg.upd k.toNat (σ.k k.toNat ++ [[]]) (hg.u _ (by omega)).empty (by simp; omega) (by intro x hx; rcases List.mem_append.1 hx with hx | hx; exact hg.nl _ (by omega) x hx; simp at hx; subst hx; simp),
        add_empty h k hk hr (by omega), RefWay.ks fun W' h' => radd_new h' k hr [] (by simp) (fun e => absurd rfl e) (by omega) (fun e => absurd rfl e)⟩
    · cases hnm : Ltr.name t with
      | false => exact ⟨0, 24, σ, hg.more, ProgWay.same h (add_name h k hk t hr h0 hnm (by omega)), RefWay.same fun W' h' => radd_name h' k t hr (by omega) h0 hnm⟩
      | true =>
        cases hf : Sc.find (σ.k k.toNat) t with
        | some i => exact ⟨0, 21, σ, hg.more, ProgWay.same h (add_twice h k hk t hr h0 hnm (by omega) i hf), RefWay.same fun W' h' => by
            have := radd_twice h' k.toNat (by omega) t (by omega) h0 hnm (by omega) i (place_some (hg.u _ (by omega)) h0 hf)
            rw [hkn] at this
            exact this⟩
        | none => exact ⟨_, 0, _, hg.upd k.toNat (σ.k k.toNat ++ [t]) ((hg.u _ (by omega)).snoc t h0 hf) (by simp; omega) (by intro x hx; rcases List.mem_append.1 hx with hx | hx; exact hg.nl _ (by omega) x hx; simp at hx; subst hx; exact hl),
            add_new h k hk t hr h0 hnm (by omega) hf (by omega), RefWay.ks fun W' h' => radd_new h' k hr t (by omega) (fun _ => hnm) (by omega) (fun _ => place_none h0 hf)⟩
  · exact ⟨0, 1, σ, hg.more, ProgWay.same h (add_arg h k hk t hr), RefWay.same fun W' h' => radd_arg h' k t hr⟩
theorem find_ways {W : World} {B : Nat} {y : Lay} {σ : SSt} {n : Nat} (vs : Nat → Value) (lv : Value) (h : ScopeAt W B (B + 1) y σ) (hg : GoodS σ n) (hn : n ≤ 1000) (k : Int) (hk : (Lit.int .i64 k).wf = true) (t : Nm) (hl : t.length ≤ 40) :
    ∃ (a e : Int), ProgWay W B y 14 #[.pointer (some ⟨B + 1, 0, none⟩), .int .i64 k, .string ⟨t.toArray⟩] (.tuple #[.int .i64 a, .int .i64 e]) σ ∧
      ∀ W', RefIs W' vs lv σ → Calls Try.prog 19 #[.agg (refCells vs lv), .int .i64 k, .string ⟨t.toArray⟩] W' fun E w' => E = .returned (.tuple #[.int .i64 a, .int .i64 e]) ∧ Below W'.heap.size W' w' := by
  by_cases hr : 0 ≤ k ∧ k < 9
  · have hkl := hg.kl k.toNat (by omega)
    have hkn : ((k.toNat : Nat) : Int) = k := by omega
    by_cases ht : t.head? = some 36
    · refine ⟨_, _, ProgWay.same h (find_dollar h k hk t hr ht (by omega)), fun W' h' => ?_⟩
      have := rfind_dollar h' k.toNat (by omega) t ht (by omega) (by omega)
      rw [hkn, rfin_fin (hg.u _ (by omega)) (dollar_ne ht)] at this
      exact this
    · exact ⟨_, _, ProgWay.drewn h (find_word h k hk t hr ht (by omega)), fun W' h' => rfind_word vs lv k t W' hr ht (by omega)⟩
  · exact ⟨_, _, ProgWay.same h (find_arg h k hk t hr), fun W' h' => rfind_arg vs lv k t W' hr⟩
theorem label_ways {W : World} {B : Nat} {y : Lay} {σ : SSt} {n : Nat} (vs : Nat → Value) (lv : Value) (h : ScopeAt W B (B + 1) y σ) (hg : GoodS σ n) (hn : n ≤ 1000) (t : Nm) (hl : t.length ≤ 40) :
    ∃ (a e : Int), ProgWay W B y 12 #[.pointer (some ⟨B + 1, 0, none⟩), .string ⟨t.toArray⟩] (.tuple #[.int .i64 a, .int .i64 e]) σ ∧
      ∀ W', RefIs W' vs lv σ → Calls Try.prog 22 #[.agg (refCells vs lv), .string ⟨t.toArray⟩] W' fun E w' => E = .returned (.tuple #[.int .i64 a, .int .i64 e]) ∧ Below W'.heap.size W' w' := by
  have hll := hg.ll
  by_cases ht : t.head? = some 36
  · exact ⟨_, _, ProgWay.drewn h (label_dollar h t ht (by omega) (by omega)), fun W' h' => rlabel_dollar h' t ht (by omega) (by omega)⟩
  · exact ⟨_, _, ProgWay.drewn h (label_word h t ht (by omega)), fun W' h' => rlabel_word vs lv t W' ht (by omega)⟩
theorem push_ways {W : World} {B : Nat} {y : Lay} {σ : SSt} {n : Nat} (vs : Nat → Value) (lv : Value) (h : ScopeAt W B (B + 1) y σ) (hg : GoodS σ n) (hn : n ≤ 1000) (t : Nm) :
    ∃ σ', GoodS σ' (n + 1) ∧ ProgWay W B y 10 #[.pointer (some ⟨B + 1, 0, none⟩), .string ⟨t.toArray⟩] (.tuple #[]) σ' ∧
      RefWay 20 vs lv σ [.string ⟨t.toArray⟩] (fun v => v) σ' := by
  have hll := hg.ll
  exact ⟨_, hg.lab (σ.lab ++ [t]) (by simp; omega), push_any h t (by omega), RefWay.labs fun W' h' => rpush_any h' t (by omega)⟩
theorem pop_ways {W : World} {B : Nat} {y : Lay} {σ : SSt} {n : Nat} (vs : Nat → Value) (lv : Value) (h : ScopeAt W B (B + 1) y σ) (hg : GoodS σ n) (hn : n ≤ 1000) :
    ∃ σ', GoodS σ' (n + 1) ∧ ProgWay W B y 11 #[.pointer (some ⟨B + 1, 0, none⟩)] (.tuple #[]) σ' ∧
      RefWay 21 vs lv σ [] (fun v => v) σ' := by
  have hll := hg.ll
  exact ⟨_, hg.lab (σ.lab.take (σ.lab.length - 1)) (by simp; omega), pop_any h (by omega), RefWay.labs fun W' h' => rpop_any h' (by omega)⟩
theorem reset_ways {W : World} {B : Nat} {y : Lay} {σ : SSt} {n : Nat} (vs : Nat → Value) (lv : Value) (h : ScopeAt W B (B + 1) y σ) (hg : GoodS σ n) (k : Int) (hk : (Lit.int .i64 k).wf = true) :
    ∃ σ', GoodS σ' (n + 1) ∧ ProgWay W B y 23 #[.pointer (some ⟨B + 1, 0, none⟩), .int .i64 k] (.tuple #[]) σ' ∧
      RefWay 24 vs lv σ [.int .i64 k] (fun v => v) σ' := by
  by_cases hr : 0 ≤ k ∧ k < 9
  · exact ⟨_, hg.upd k.toNat [] Uq.nil (by simp) (by simp), reset_kind h k hk hr, RefWay.ks fun W' h' => rreset_kind h' k hr⟩
  · exact ⟨σ, hg.more, ProgWay.same h (reset_none h k hk hr), RefWay.same fun W' h' => rreset_none h' k hr⟩

/-- The named entries of a kind, none where there is no such kind. -/
def namesF (σ : SSt) (k : Int) : List (Nat × Nm) := if 0 ≤ k ∧ k < 9 then Sc.nms (σ.k k.toNat) else []
theorem namesF_len {σ : SSt} {n : Nat} (hg : GoodS σ n) (k : Int) : (namesF σ k).length ≤ n := by
  unfold namesF
  split
  · have := Sc.nms_len (σ.k k.toNat)
    have := hg.kl k.toNat (by omega)
    omega
  · simp
theorem names_all {W : World} {B : Nat} {y : Lay} {σ : SSt} {n : Nat} (h : ScopeAt W B (B + 1) y σ) (hg : GoodS σ n) (hn : n ≤ 1000) (k : Int) (hk : (Lit.int .i64 k).wf = true) :
    Calls Try.prog 27 #[.pointer (some ⟨B + 1, 0, none⟩), .int .i64 k] W fun e w' => ∃ A c, e = .returned (.slice A (namesF σ k).length c) ∧
      w'.ownsRow W.heap.size 61 2 (.slice A (namesF σ k).length c) (namesF σ k).length (nmCells (namesF σ k)) ∧ Below W.heap.size W w' := by
  unfold namesF
  by_cases hr : 0 ≤ k ∧ k < 9
  · rw [if_pos hr]
    exact names_any h k hk hr (by have := hg.kl k.toNat (by omega); omega)
  · rw [if_neg hr]
    exact (names_none h k hk hr).mono fun _ _ ⟨he, hw⟩ => ⟨none, 0, he, nil_row _ _ _ _, hw ▸ Below.refl _ _⟩
theorem rnames_all {W : World} {vs : Nat → Value} {lv : Value} {σ : SSt} {n : Nat} (h : RefIs W vs lv σ) (hg : GoodS σ n) (hn : n ≤ 1000) (k : Int) :
    Calls Try.prog 28 #[.agg (refCells vs lv), .int .i64 k] W fun e w' => ∃ A c, e = .returned (.slice A (namesF σ k).length c) ∧
      w'.ownsRow W.heap.size 61 2 (.slice A (namesF σ k).length c) (namesF σ k).length (nmCells (namesF σ k)) ∧ Below W.heap.size W w' := by
  unfold namesF
  by_cases hr : 0 ≤ k ∧ k < 9
  · rw [if_pos hr]
    have := rnames_any h k.toNat (by omega) (by have := hg.kl k.toNat (by omega); omega) (fun x hx => by have := hg.nl k.toNat (by omega) x hx; omega)
    rw [show ((k.toNat : Nat) : Int) = k from by omega] at this
    exact this
  · rw [if_neg hr]
    exact (rnames_none vs lv k W hr).mono fun _ _ ⟨he, hw⟩ => ⟨none, 0, he, nil_row _ _ _ _, hw⟩
end Go.Proofs.Ytbnddnoognoekaa
