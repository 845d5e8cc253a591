/-
  Right, Limits, Fits, Find, OfByte; the chapter's examples.
-/
import Derived.Test.YtkljmdekihlkeaaTypesText
set_option linter.unusedVariables false
namespace Go.Proofs.Ytkljmdekihlkeaa
open Go.RowKit

set_option maxHeartbeats 1000000 in
set_option maxRecDepth 100000 in
theorem right_any (A1 A2 : Option Addr) (c1 c2 : Nat) (ps rs : List Int) (w : World) (h1 : RdI w w.heap.size A1 ps) (h2 : RdI w w.heap.size A2 rs) (hp : ps.length ≤ 1000) (hr : rs.length ≤ 1000) :
    Calls Try.prog 22 #[.agg #[.slice A1 ps.length c1, .slice A2 rs.length c2]] w fun e w' => e = .returned (.bool (Ty.right ps && Ty.right rs)) ∧ Below w.heap.size w w' := by
  rcases e1 : Ty.right ps with _ | _ <;> rcases e2 : Ty.right rs with _ | _
  all_goals
    have E1 := Lib.hid e1
    have E2 := Lib.hid e2
    clear e1 e2
    go_enter Try.func22, Try.ntmps22
    go_wp2_with (first
      | (go_at_call 41; (with_reducible refine (all_any A1 c1 ps _ w.heap.size ?_ ?_).mono ?_); exact h1.alloc (Nat.le_refl _) _; omega; rintro e w1 ⟨rfl, rfl⟩; rw [E1.out])
      | (go_at_call 41; (with_reducible refine (all_any A2 c2 rs _ w.heap.size ?_ ?_).mono ?_); exact h2.alloc (Nat.le_refl _) _; omega; rintro e w1 ⟨rfl, rfl⟩; rw [E2.out]))
    go_ret
    exact ⟨rfl, (Below.refl _ _).alloc (Nat.le_refl _) _⟩

theorem limits_any (mn mx : Int) (has : Bool) (most : Int) (w : World) :
    Calls Try.prog 10 #[.agg #[.int .i64 mn, .int .i64 mx, .bool has], .int .i64 most] w fun e w' => e = .returned (.bool (Ty.limits mn mx has most)) ∧ Below w.heap.size w w' := by
  unfold Ty.limits
  by_cases h1 : mn < 0
  · rw [if_pos (.inl h1)]
    go_enter Try.func10, Try.ntmps10
    go_wp2
    go_ret
    exact ⟨rfl, (Below.refl _ _).alloc (Nat.le_refl _) _⟩
  by_cases h2 : most < mn
  · rw [if_pos (.inr h2)]
    go_enter Try.func10, Try.ntmps10
    go_wp2
    go_ret
    exact ⟨rfl, (Below.refl _ _).alloc (Nat.le_refl _) _⟩
  rw [if_neg (by omega)]
  rcases has with _ | _
  · rw [if_pos rfl]
    go_enter Try.func10, Try.ntmps10
    go_wp2
    go_ret
    exact ⟨rfl, (Below.refl _ _).alloc (Nat.le_refl _) _⟩
  · rw [if_neg (by decide)]
    rcases h3 : decide (mn ≤ mx) with _ | _ <;> rcases h4 : decide (mx ≤ most) with _ | _
    all_goals
      go_enter Try.func10, Try.ntmps10
      go_wp2
      go_ret
      exact ⟨by simp, (Below.refl _ _).alloc (Nat.le_refl _) _⟩

theorem fits_any (now hmn hmx : Int) (hh : Bool) (wmn wmx : Int) (wh : Bool) (w : World) :
    Calls Try.prog 8 #[.int .i64 now, .agg #[.int .i64 hmn, .int .i64 hmx, .bool hh], .agg #[.int .i64 wmn, .int .i64 wmx, .bool wh]] w fun e w' => e = .returned (.bool (Ty.fits now hmx hh wmn wmx wh)) ∧ Below w.heap.size w w' := by
  unfold Ty.fits
  by_cases h1 : now < wmn
  · rw [if_pos h1]
    go_enter Try.func8, Try.ntmps8
    go_wp2
    go_ret
    exact ⟨rfl, ((Below.refl _ _).alloc (Nat.le_refl _) _).alloc (by simp) _⟩
  · rw [if_neg h1]
    have g1 : decide (now < wmn) = false := by simpa using h1
    rcases wh with _ | _ <;> rcases hh with _ | _ <;> rcases h4 : decide (hmx ≤ wmx) with _ | _
    all_goals
      go_enter Try.func8, Try.ntmps8
      go_wp2
      go_ret
      exact ⟨by simp, ((Below.refl _ _).alloc (Nat.le_refl _) _).alloc (by simp) _⟩

theorem RdI.lit {w : World} {B : Nat} {xs : List Int} (cs : Array Value) (e : TypeId) (h : cs.toList = xs.map (Value.int .i64)) (hB : w.heap.size < B) : RdI (w.alloc (.cells cs e)) B (some ⟨w.heap.size, 0, none⟩) xs := by
  refine ⟨by simp, fun _ => ⟨_, rfl, hB, fun j u hj => ?_⟩⟩
  exact World.news_of_block (cs := cs) (t := e) (fr := (0, 0)) (heap_alloc_new w _) j u (by rw [h]; exact hj)

theorem text_ex : Ty.text [1, 2] [1] = [40, 105, 51, 50, 44, 32, 105, 54, 52, 41, 32, 45, 62, 32, 40, 105, 51, 50, 41] := by decide +kernel

set_option maxHeartbeats 1000000 in
set_option maxRecDepth 100000 in
theorem alive_any (w : World) : Calls Try.prog 9 #[] w fun e w' => e = .returned (.bool true) ∧ Below w.heap.size w w' := by
  go_enter Try.func9, Try.ntmps9
  go_wp2_with fail
  have r1 : RdI (w.alloc (.cells #[.int .i64 1, .int .i64 2] 28)) (w.heap.size + 1) (some ⟨w.heap.size, 0, none⟩) [1, 2] := RdI.lit _ _ rfl (Nat.lt_succ_self _)
  obtain ⟨W1, hW1⟩ : ∃ W1, w.alloc (.cells #[.int .i64 1, .int .i64 2] 28) = W1 := ⟨_, rfl⟩
  have z1 : W1.heap.size = w.heap.size + 1 := by rw [← hW1]; simp
  have b1 : Below w.heap.size w W1 := by rw [← hW1]; exact (Below.refl _ _).alloc (Nat.le_refl _) _
  have r2 : RdI (W1.alloc (.cells #[.int .i64 1] 28)) (w.heap.size + 2) (some ⟨w.heap.size + 1, 0, none⟩) [1] := by
    have := RdI.lit (w := W1) (B := w.heap.size + 2) (xs := [1]) #[.int .i64 1] 28 rfl (by omega)
    rw [z1] at this; exact this
  rw [hW1] at r1 ⊢
  have r1' := r1.alloc (by omega) (.cells #[.int .i64 1] 28)
  obtain ⟨W2, hW2⟩ : ∃ W2, W1.alloc (.cells #[.int .i64 1] 28) = W2 := ⟨_, rfl⟩
  have z2 : W2.heap.size = w.heap.size + 2 := by rw [← hW2]; simp; omega
  have b2 : Below w.heap.size w W2 := by rw [← hW2]; exact b1.alloc (by omega) _
  rw [hW2] at r1' r2 ⊢
  have q1 := r1'.alloc (by omega) (.cells #[.slice (some ⟨w.heap.size, 0, none⟩) 2 2, .slice (some ⟨w.heap.size + 1, 0, none⟩) 1 1] 41)
  have q2 := r2.alloc (by omega) (.cells #[.slice (some ⟨w.heap.size, 0, none⟩) 2 2, .slice (some ⟨w.heap.size + 1, 0, none⟩) 1 1] 41)
  have y0 : (W2.alloc (.cells #[.slice (some ⟨w.heap.size, 0, none⟩) 2 2, .slice (some ⟨w.heap.size + 1, 0, none⟩) 1 1] 41)).cell? ⟨w.heap.size + 2, 0, none⟩ = some (.slice (some ⟨w.heap.size, 0, none⟩) 2 2) := by rw [← z2]; simp
  have y1 : (W2.alloc (.cells #[.slice (some ⟨w.heap.size, 0, none⟩) 2 2, .slice (some ⟨w.heap.size + 1, 0, none⟩) 1 1] 41)).cell? ⟨w.heap.size + 2, 1, none⟩ = some (.slice (some ⟨w.heap.size + 1, 0, none⟩) 1 1) := by rw [← z2]; simp
  obtain ⟨W3, hW3⟩ : ∃ W3, W2.alloc (.cells #[.slice (some ⟨w.heap.size, 0, none⟩) 2 2, .slice (some ⟨w.heap.size + 1, 0, none⟩) 1 1] 41) = W3 := ⟨_, rfl⟩
  have z3 : W3.heap.size = w.heap.size + 3 := by rw [← hW3]; simp; omega
  have b3 : Below w.heap.size w W3 := by rw [← hW3]; exact b2.alloc (by omega) _
  rw [hW3] at q1 q2 y0 y1 ⊢
  clear r1 r1' r2 hW1 hW2 hW3 b1 b2 z1 z2
  refine (text_any _ _ 2 1 [1, 2] [1] W3 (q1.more (by omega)) (q2.more (by omega)) (by simp) (by simp)).mono ?_
  rintro e v1 ⟨rfl, c1⟩
  rw [text_ex]
  have s1 := c1.size
  go_wp2_with fail
  refine (limits_any 3 2 true 9 _).mono ?_
  rintro e v2 ⟨rfl, c2⟩
  rw [show Ty.limits 3 2 true 9 = false from by decide]
  have s2 := c2.size
  go_wp2_with fail
  refine (limits_any 3 2 false 9 _).mono ?_
  rintro e v3 ⟨rfl, c3⟩
  rw [show Ty.limits 3 2 false 9 = false from by decide]
  have s3 := c3.size
  go_wp2_with fail
  refine (fits_any 4 2 8 true 3 9 true _).mono ?_
  rintro e v4 ⟨rfl, c4⟩
  rw [show Ty.fits 4 8 true 3 9 true = true from by decide]
  have s4 := c4.size
  go_wp2_with fail
  refine (fits_any 4 2 0 false 3 9 true _).mono ?_
  rintro e v5 ⟨rfl, c5⟩
  rw [show Ty.fits 4 0 false 3 9 true = false from by decide]
  have s5 := c5.size
  have d5 : Below W3.heap.size W3 v5 := (((c1.trans (c2.mono s1)).trans (c3.mono (by omega))).trans (c4.mono (by omega))).trans (c5.mono (by omega))
  have y0' := (d5.cell (p := ⟨w.heap.size + 2, 0, none⟩) (by show w.heap.size + 2 < _; omega)).trans y0
  have y1' := (d5.cell (p := ⟨w.heap.size + 2, 1, none⟩) (by show w.heap.size + 2 < _; omega)).trans y1
  have s35 : W3.heap.size ≤ v5.heap.size := d5.size
  have p1 : RdI v5 v5.heap.size (some ⟨w.heap.size, 0, none⟩) [1, 2] := (q1.below (d5.mono (by omega))).more (by omega)
  have p2 : RdI v5 v5.heap.size (some ⟨w.heap.size + 1, 0, none⟩) [1] := (q2.below (d5.mono (by omega))).more (by omega)
  have bw : Below w.heap.size w v5 := b3.trans (d5.mono (by omega))
  clear c1 c2 c3 c4 c5 y0 y1 q1 q2 d5
  go_wp2_with fail
  refine (right_any _ _ 2 1 [1, 2] [1] _ p1 p2 (by simp) (by simp)).mono ?_
  rintro e v6 ⟨rfl, c6⟩
  rw [show (Ty.right [1, 2] && Ty.right [1]) = true from by decide]
  go_wp2
  go_ret
  exact ⟨rfl, bw.trans (c6.mono bw.size)⟩
end Go.Proofs.Ytkljmdekihlkeaa
