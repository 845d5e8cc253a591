/-
  The reference's Nat; Find and Label of a Scope at words that are no names; Reset.
-/
import Derived.Test.YtbnddnoognoekaaLitRMag
import Derived.Test.YtbnddnoognoekaaScopeFind
import Derived.Test.YtbnddnoognoekaaScopePush
set_option linter.unusedVariables false
namespace Go.Proofs.Ytbnddnoognoekaa
open Go.RowKit Go.Maps

set_option maxHeartbeats 1000000 in
set_option maxRecDepth 100000 in
theorem rnat_any (l : List UInt8) (m : Int) (w : World) (hl : l.length ≤ 1000000) (hm : m ≤ 9223372036854775807) : Calls Try.prog 37 #[.string ⟨l.toArray⟩, .int .i64 m] w fun e w' =>
    e = .returned (.tuple #[.int .i64 (Ltr.natF l m).1, .int .i64 (Ltr.natF l m).2]) ∧ w = w' := by
  have hmag := digits_any l w hl
  unfold Ltr.natF
  obtain ⟨⟨n, o, b⟩, hR⟩ : ∃ x, Ltr.magR (Ltr.mag l) = x := ⟨_, rfl⟩
  rw [hR] at hmag ⊢
  dsimp only at hmag ⊢
  have hn : n < 18446744073709551616 := by
    have : (Ltr.magR (Ltr.mag l)).1 = n := by rw [hR]
    rw [← this]
    unfold Ltr.magR
    split
    · simp
    · exact Nat.mod_lt _ (by omega)
  have HG := Lib.hid hmag
  clear hmag hR
  rcases b with _ | _
  · rw [if_pos rfl]
    go_enter Try.func37, Try.ntmps37
    go_wp2_with (go_at_call 41; refine HG.out.mono ?_; rintro e w1 ⟨rfl, rfl⟩)
    go_ret2
    exact ⟨rfl, rfl⟩
  · rw [if_neg (by decide)]
    rcases o with _ | _
    · by_cases h0 : m < 0
      · rw [if_pos (.inr (.inl h0))]
        have d0 : decide (m < 0) = true := by simpa using h0
        go_enter Try.func37, Try.ntmps37
        go_wp2_with (go_at_call 41; refine HG.out.mono ?_; rintro e w1 ⟨rfl, rfl⟩)
        go_ret2
        exact ⟨rfl, rfl⟩
      · have d0 : decide (m < 0) = false := by simpa using h0
        have u1 : IntKind.u64.wrap m = m := by rw [IntKind.wrap_u64]; omega
        by_cases h1 : m < (n : Int)
        · rw [if_pos (.inr (.inr h1))]
          have d1 : decide (m < (n : Int)) = true := by simpa using h1
          go_enter Try.func37, Try.ntmps37
          go_wp2_with (go_at_call 41; refine HG.out.mono ?_; rintro e w1 ⟨rfl, rfl⟩)
          go_ret2
          exact ⟨rfl, rfl⟩
        · rw [if_neg (by simp; omega)]
          have d1 : decide (m < (n : Int)) = false := by simpa using h1
          have u2 : IntKind.i64.wrap (n : Int) = (n : Int) := by rw [IntKind.wrap_i64]; omega
          go_enter Try.func37, Try.ntmps37
          go_wp2_with (go_at_call 41; refine HG.out.mono ?_; rintro e w1 ⟨rfl, rfl⟩)
          go_ret2
          exact ⟨rfl, rfl⟩
    · rw [if_pos (.inl rfl)]
      go_enter Try.func37, Try.ntmps37
      go_wp2_with (go_at_call 41; refine HG.out.mono ?_; rintro e w1 ⟨rfl, rfl⟩)
      go_ret2
      exact ⟨rfl, rfl⟩

set_option maxHeartbeats 1000000 in
set_option maxRecDepth 100000 in
theorem find_word {W : World} {B s : Nat} {y : Lay} {σ : SSt} (h : ScopeAt W B s y σ) (k : Int) (hk : (Lit.int .i64 k).wf = true) (t : Nm) (hr : 0 ≤ k ∧ k < 9) (ht : t.head? ≠ some 36) (hl : t.length ≤ 1000000) :
    Calls Try.prog 14 #[.pointer (some ⟨s, 0, none⟩), .int .i64 k, .string ⟨t.toArray⟩] W fun e w' => e = .returned (.tuple #[.int .i64 (Ltr.natF t 4294967295).1, .int .i64 (Ltr.natF t 4294967295).2]) ∧ ∃ q, w' = W.drewN q := by
  have ho := of_any h k hk
  unfold ofF at ho
  rw [if_pos hr] at ho
  have HO := Lib.hid ho
  have hc0 := scope_cell0 h
  have HP := Lib.hid (pre_no t ht W hl)
  have HN := Lib.hid (lnat_any t 4294967295 W hl (by omega))
  clear ho hr ht
  go_enter Try.func14, Try.ntmps14
  go_wp2_with (first
    | (go_at_call 29; refine (made_yes s y.a _ hc0).mono ?_; rintro e w1 ⟨rfl, rfl⟩)
    | (go_at_call 30; refine HO.out.mono ?_; rintro e w1 ⟨rfl, rfl⟩)
    | (go_at_call 32; refine HP.out.mono ?_; rintro e w1 ⟨rfl, rfl⟩)
    | (go_at_call 33; refine HN.out.mono ?_; rintro e w1 ⟨rfl, q, rfl⟩))
  go_ret2
  exact ⟨rfl, q, rfl⟩
set_option maxHeartbeats 1000000 in
set_option maxRecDepth 100000 in
theorem find_arg {W : World} {B s : Nat} {y : Lay} {σ : SSt} (h : ScopeAt W B s y σ) (k : Int) (hk : (Lit.int .i64 k).wf = true) (t : Nm) (hr : ¬ (0 ≤ k ∧ k < 9)) :
    Calls Try.prog 14 #[.pointer (some ⟨s, 0, none⟩), .int .i64 k, .string ⟨t.toArray⟩] W fun e w' => e = .returned (.tuple #[.int .i64 0, .int .i64 1]) ∧ W = w' := by
  have ho := of_any h k hk
  unfold ofF at ho
  rw [if_neg hr] at ho
  have HO := Lib.hid ho
  have hc0 := scope_cell0 h
  clear ho hr
  go_enter Try.func14, Try.ntmps14
  go_wp2_with (first
    | (go_at_call 29; refine (made_yes s y.a _ hc0).mono ?_; rintro e w1 ⟨rfl, rfl⟩)
    | (go_at_call 30; refine HO.out.mono ?_; rintro e w1 ⟨rfl, rfl⟩))
  go_ret2
  exact ⟨rfl, rfl⟩
set_option maxHeartbeats 1000000 in
set_option maxRecDepth 100000 in
theorem label_word {W : World} {B s : Nat} {y : Lay} {σ : SSt} (h : ScopeAt W B s y σ) (t : Nm) (ht : t.head? ≠ some 36) (hl : t.length ≤ 1000000) :
    Calls Try.prog 12 #[.pointer (some ⟨s, 0, none⟩), .string ⟨t.toArray⟩] W fun e w' => e = .returned (.tuple #[.int .i64 (Ltr.natF t 4294967295).1, .int .i64 (Ltr.natF t 4294967295).2]) ∧ ∃ q, w' = W.drewN q := by
  have hc0 := scope_cell0 h
  have HP := Lib.hid (pre_no t ht W hl)
  have HN := Lib.hid (lnat_any t 4294967295 W hl (by omega))
  clear ht
  go_enter Try.func12, Try.ntmps12
  go_wp2_with (first
    | (go_at_call 29; refine (made_yes s y.a _ hc0).mono ?_; rintro e w1 ⟨rfl, rfl⟩)
    | (go_at_call 32; refine HP.out.mono ?_; rintro e w1 ⟨rfl, rfl⟩)
    | (go_at_call 33; refine HN.out.mono ?_; rintro e w1 ⟨rfl, q, rfl⟩))
  go_ret2
  exact ⟨rfl, q, rfl⟩
set_option maxHeartbeats 1000000 in
set_option maxRecDepth 100000 in
theorem names_none {W : World} {B s : Nat} {y : Lay} {σ : SSt} (h : ScopeAt W B s y σ) (k : Int) (hk : (Lit.int .i64 k).wf = true) (hr : ¬ (0 ≤ k ∧ k < 9)) :
    Calls Try.prog 27 #[.pointer (some ⟨s, 0, none⟩), .int .i64 k] W fun e w' => e = .returned (.slice none 0 0) ∧ W = w' := by
  have ho := of_any h k hk
  unfold ofF at ho
  rw [if_neg hr] at ho
  have HO := Lib.hid ho
  clear ho hr
  go_enter Try.func27, Try.ntmps27
  go_wp2_with (go_at_call 30; refine HO.out.mono ?_; rintro e w1 ⟨rfl, rfl⟩)
  go_ret
  exact ⟨rfl, rfl⟩
set_option maxHeartbeats 1000000 in
set_option maxRecDepth 100000 in
theorem reset_none {W : World} {B s : Nat} {y : Lay} {σ : SSt} (h : ScopeAt W B s y σ) (k : Int) (hk : (Lit.int .i64 k).wf = true) (hr : ¬ (0 ≤ k ∧ k < 9)) :
    Calls Try.prog 23 #[.pointer (some ⟨s, 0, none⟩), .int .i64 k] W fun e w' => e = .returned (.tuple #[]) ∧ W = w' := by
  have ho := of_any h k hk
  unfold ofF at ho
  rw [if_neg hr] at ho
  have HO := Lib.hid ho
  clear ho hr
  go_enter Try.func23, Try.ntmps23
  go_wp2_with (go_at_call 30; refine HO.out.mono ?_; rintro e w1 ⟨rfl, rfl⟩)
  go_end0
  exact ⟨rfl, rfl⟩
end Go.Proofs.Ytbnddnoognoekaa
