/-
  The walk of the law ScopeFinds.
-/
import Derived.Test.YtbnddnoognoekaaScopeLabels
import Derived.Test.YtbnddnoognoekaaLitRName
set_option linter.unusedVariables false
namespace Go.Proofs.Ytbnddnoognoekaa
open Go.RowKit Go.Maps

theorem upd_upd {α : Type} (f : Nat → α) (k : Nat) (u v : α) : upd (upd f k u) k v = upd f k v := by
  funext j
  unfold upd
  split <;> rfl
/-- What the added names are like: a name that is not empty is an identifier and is found at its place. -/
def GoodN (xs : List Nm) : Prop := ∀ i (h : i < xs.length), xs[i].length ≤ 40 ∧ (xs[i] ≠ [] → Ltr.name xs[i] = true ∧ Sc.find xs xs[i] = some i)
theorem GoodN.nil : GoodN [] := fun i h => by simp at h
theorem GoodN.empty {xs : List Nm} (h : GoodN xs) : GoodN (xs ++ [[]]) := by
  intro i hi
  by_cases hl : i < xs.length
  · have e : (xs ++ [[]])[i] = xs[i] := List.getElem_append_left hl
    rw [e, Sc.find_empty]
    exact h i hl
  · have e : (xs ++ [[]])[i] = [] := by rw [List.getElem_append_right (by omega)]; simp
    rw [e]
    exact ⟨by simp, fun hh => absurd rfl hh⟩
theorem GoodN.snoc {xs : List Nm} (h : GoodN xs) (t : Nm) (ht : t ≠ []) (hn : Ltr.name t = true) (hf : Sc.find xs t = none) (hl : t.length ≤ 40) : GoodN (xs ++ [t]) := by
  intro i hi
  by_cases hil : i < xs.length
  · have e : (xs ++ [t])[i] = xs[i] := List.getElem_append_left hil
    rw [e]
    refine ⟨(h i hil).1, fun hne => ⟨((h i hil).2 hne).1, ?_⟩⟩
    have hfi := ((h i hil).2 hne).2
    rw [Sc.find_snoc_other xs t xs[i] (fun e => by rw [e, hfi] at hf; cases hf)]
    exact hfi
  · have hieq : i = xs.length := by simp at hi; omega
    subst hieq
    have e : (xs ++ [t])[xs.length] = t := by simp
    rw [e]
    exact ⟨hl, fun _ => ⟨hn, Sc.find_snoc_same xs t ht hf⟩⟩
theorem name_head36 {t : Nm} (h : Ltr.name t = true) : t.head? = some 36 := by
  unfold Ltr.name at h
  simp at h
  exact h.1.2

/-- A Scope with names of one kind, and beside it a row of the same names. -/
def FInv (w wr : World) (B K : Nat) (v : Value) (xs : List Nm) : Prop :=
  ∃ y', ScopeAt wr B (B + 1) y' ⟨upd (fun _ => []) K xs, []⟩ ∧ wr.ownsRow B 9 1 v xs.length (xs.map str) ∧ (∀ g, v.ownBlock = some g → ¬ foot y' (B + 1) g) ∧ Below B w wr
theorem FInv.turned {w wr w2 : World} {B K : Nat} {v : Value} {xs zs : List Nm} {y y2 : Lay} (hown : wr.ownsRow B 9 1 v xs.length (xs.map str)) (hsep : ∀ g, v.ownBlock = some g → ¬ foot y (B + 1) g) (hb : Below B w wr)
    (h2 : ScopeAt w2 B (B + 1) y2 ⟨upd (fun _ => []) K zs, []⟩) (t2 : Turned wr w2 B (B + 1) y y2) :
    ScopeAt w2 B (B + 1) y2 ⟨upd (fun _ => []) K zs, []⟩ ∧ w2.ownsRow B 9 1 v xs.length (xs.map str) ∧ (∀ g, v.ownBlock = some g → ¬ foot y2 (B + 1) g) ∧ Below B w w2 := by
  refine ⟨h2, own_same hown (fun g hg => t2.far g (hown.lt g hg).2 (hsep g hg)), fun g hg hf => ?_, hb.trans t2.bel⟩
  rcases t2.new g hf with h | h
  · exact hsep g hg h
  · have := (hown.lt g hg).2
    omega
theorem FInv.app {w w2 w3 : World} {B K : Nat} {v : Value} {xs zs : List Nm} {y2 : Lay} {t : Nm} {A2 : Option Addr} {c2 : Nat} (h2 : ScopeAt w2 B (B + 1) y2 ⟨upd (fun _ => []) K (xs ++ [t]), []⟩) (hown : w2.ownsRow B 9 1 v xs.length (xs.map str)) (hsep : ∀ g, v.ownBlock = some g → ¬ foot y2 (B + 1) g) (hb : Below B w w2)
    (hown3 : w3.ownsRow B 9 1 (.slice A2 (xs.length + 1) c2) (xs.length + 1) (xs.map str ++ [.string ⟨t.toArray⟩])) (hg : w2.grownBy w3 v.ownBlock) (hat : Value.ownBlock (.slice A2 (xs.length + 1) c2) = v.ownBlock ∨ Value.ownBlock (.slice A2 (xs.length + 1) c2) = some (w2.heap.size + 1)) :
    FInv w w3 B K (.slice A2 (xs.length + 1) c2) (xs ++ [t]) := by
  refine ⟨y2, h2.same (fun b hf => hg.block b (h2.foot_in hf).2 (fun e => hsep b e.symm hf)), ?_, fun g hgg hf => ?_, hb.trans (below_own hown hg (by have := h2.foot_in (b := B + 1) (.inl rfl); omega))⟩
  · have e1 : (xs ++ [t]).length = xs.length + 1 := by simp
    have e2 : (xs ++ [t]).map str = xs.map str ++ [.string ⟨t.toArray⟩] := by simp [str]
    rw [e1, e2]
    exact hown3
  · rcases hat with h | h
    · exact hsep g (h ▸ hgg) hf
    · rw [h] at hgg
      injection hgg with hgg
      have := (h2.foot_in hf).2
      omega

set_option maxHeartbeats 2000000 in
set_option maxRecDepth 100000 in
theorem finds_bad (kd : Int) (A : Option Addr) (c : Nat) (l : List Nm) (w : World) (hk : (Lit.int .i64 kd).wf = true) (hr : RdS w w.heap.size A l) (hl : l.length ≤ 40) (hbad : ¬ (0 ≤ kd ∧ kd < 9)) :
    Calls Try.prog 4 #[.int .i64 kd, .slice A l.length c] w fun e w' => e = .returned (.bool true) ∧ Below w.heap.size w w' := by
  obtain ⟨B, hB⟩ : ∃ B, w.heap.size = B := ⟨_, rfl⟩
  have C0 : Hid (Calls Try.prog 8 #[] w fun e w' => e = .returned (.pointer (some ⟨B + 1, 0, none⟩)) ∧ NewAt w w' B 9) := by have := new_any w; rw [hB] at this; exact this
  rw [hB] at hr ⊢
  clear hB
  have g1 : decide ((40 : Int) < (l.length : Int)) = false := by simp; omega
  have hway : (decide (kd < 0) = true) ∨ (decide (kd < 0) = false ∧ decide (8 < kd) = true) := by
    by_cases h : kd < 0
    · exact .inl (by simpa using h)
    · exact .inr ⟨by simpa using h, by simp; omega⟩
  have HW := Lib.hid hway
  clear hway
  go_enter Try.func4, Try.ntmps4
  go_wp2_with fail
  refine C0.out.mono ?_
  rintro e w1 ⟨rfl, hN⟩
  have h0 : ScopeAt w1 B (B + 1) _ sc0 := hN.scope
  have b0 := hN.bel
  have hsz : B ≤ w1.heap.size := by have := (h0.foot_in (b := B + 1) (.inl rfl)).2; omega
  have HA : Hid (∀ t : Nm, Calls Try.prog 9 #[.pointer (some ⟨B + 1, 0, none⟩), .int .i64 kd, .string ⟨t.toArray⟩] w1 fun e w' => e = .returned (.tuple #[.int .i64 0, .int .i64 1]) ∧ w1 = w') := Lib.hid (fun t => add_arg h0 kd hk t hbad)
  have HN : Hid (Calls Try.prog 13 #[.pointer (some ⟨B + 1, 0, none⟩), .int .i64 kd] w1 fun e w' => e = .returned (.int .i64 0) ∧ w1 = w') := Lib.hid (by have := slen_any h0 kd hk; unfold lenF at this; rw [if_neg hbad] at this; exact this)
  clear hN C0 h0 hbad
  go_wp2_with fail
  go_loopw [7] (fun i wr => ∃ k : Nat, k ≤ l.length ∧ i = .int .i64 k ∧ wr = w1) (fun i _ => l.length - (intOf i).toNat)
  case atStart => exact ⟨0, by omega, rfl, rfl⟩
  case round =>
    obtain ⟨k, hk', rfl, rfl⟩ := hrel
    by_cases hkl : k < l.length
    · obtain ⟨ad, rfl, hblk, hcell0⟩ := hr.at_ hkl
      have hcell := (b0.cell (p := ad.add k) (by rw [block_of_add]; exact hblk)).trans hcell0
      have k0 : (0 : Int) ≤ (k : Int) := Int.natCast_nonneg _
      have k1 : (k : Int) < (l.length : Int) := by omega
      obtain ⟨x, hx⟩ : ∃ x, l[k] = x := ⟨_, rfl⟩
      rw [hx] at hcell
      clear hcell0 hx
      by_cases hxl : x.length ≤ 40
      · have g2 : decide ((40 : Int) < (x.length : Int)) = false := by simp; omega
        rcases HW.out with hw | ⟨hw, hw2⟩
        all_goals
          go_wp2_with (first
            | (go_at_call 9; refine (HA.out x).mono ?_; rintro e w4 ⟨rfl, rfl⟩)
            | (go_at_call 13; refine HN.out.mono ?_; rintro e w4 ⟨rfl, rfl⟩))
          go_roundw
          case rel => exact ⟨k + 1, by omega, by go_num, by first | rfl | trivial⟩
          case measure => simp [intOf]; omega
      · have g2 : decide ((40 : Int) < (x.length : Int)) = true := by simp; omega
        go_wp2_with (go_at_call 7; refine (alive_any _).mono ?_; rintro e w3 ⟨rfl, hb3⟩)
        go_ret
        exact ⟨rfl, b0.trans (hb3.mono hsz)⟩
    · rcases HW.out with hw | ⟨hw, hw2⟩
      all_goals
        go_wp2_with (go_at_call 7; refine (alive_any _).mono ?_; rintro e w3 ⟨rfl, hb3⟩)
        go_ret
        exact ⟨rfl, b0.trans (hb3.mono hsz)⟩
end Go.Proofs.Ytbnddnoognoekaa
