/-
  The walk of the law TypesLess.
-/
import Derived.Test.YtkljmdekihlkeaaTypesMore
import Derived.Deep.RegionWith
set_option linter.unusedVariables false
namespace Go.Proofs.Ytkljmdekihlkeaa
open Go.RowKit

theorem fits_less {now hmx wmn wmx amn amx : Int} {hh ah bh : Bool} (h1 : wmn ≤ amn) (h2 : bh = false ∨ (ah = true ∧ amx ≤ wmx)) (hf : Ty.fits now hmx hh amn amx ah = true) : Ty.fits now hmx hh wmn wmx bh = true := by
  unfold Ty.fits at *
  split at hf
  · simp at hf
  · rw [if_neg (by omega)]
    rcases h2 with rfl | ⟨rfl, h⟩
    · simp
    · simp at hf ⊢
      right
      exact ⟨hf.1, by omega⟩

theorem four_below {w w1 : World} {o1 o2 o3 o4 : Obj} (hb : Below ((((w.alloc o1).alloc o2).alloc o3).alloc o4).drew.heap.size ((((w.alloc o1).alloc o2).alloc o3).alloc o4).drew w1) : Below w.heap.size w w1 := by
  have b : Below w.heap.size w ((((w.alloc o1).alloc o2).alloc o3).alloc o4).drew := (((((Below.refl _ _).alloc (Nat.le_refl _) o1).alloc (by simp) o2).alloc (by simp; omega) o3).alloc (by simp; omega) o4).drew
  exact b.trans (hb.mono b.size)
theorem four_keep {w w1 : World} {a b c d e f x y z : Value} {T S : TypeId} {o : Array Value} (hb : Below ((((w.alloc (.cells #[a, b, c] T)).alloc (.cells o S)).alloc (.cells #[d, e, f] T)).alloc (.cells #[x, y, z] T)).drew.heap.size ((((w.alloc (.cells #[a, b, c] T)).alloc (.cells o S)).alloc (.cells #[d, e, f] T)).alloc (.cells #[x, y, z] T)).drew w1) :
    w1.cell? ⟨w.heap.size, 0, none⟩ = some a ∧ w1.cell? ⟨w.heap.size, 1, none⟩ = some b ∧ w1.cell? ⟨w.heap.size, 2, none⟩ = some c ∧
    w1.cell? ⟨w.heap.size + 1 + 1, 0, none⟩ = some d ∧ w1.cell? ⟨w.heap.size + 1 + 1, 1, none⟩ = some e ∧ w1.cell? ⟨w.heap.size + 1 + 1, 2, none⟩ = some f ∧
    w1.cell? ⟨w.heap.size + 1 + 1 + 1, 0, none⟩ = some x ∧ w1.cell? ⟨w.heap.size + 1 + 1 + 1, 1, none⟩ = some y ∧ w1.cell? ⟨w.heap.size + 1 + 1 + 1, 2, none⟩ = some z := by
  have hs : ((((w.alloc (.cells #[a, b, c] T)).alloc (.cells o S)).alloc (.cells #[d, e, f] T)).alloc (.cells #[x, y, z] T)).drew.heap.size = w.heap.size + 1 + 1 + 1 + 1 := by
    show ((((w.alloc (.cells #[a, b, c] T)).alloc (.cells o S)).alloc (.cells #[d, e, f] T)).alloc (.cells #[x, y, z] T)).heap.size = _
    simp
  have k : ∀ p : Addr, p.block < w.heap.size + 1 + 1 + 1 + 1 → w1.cell? p = ((((w.alloc (.cells #[a, b, c] T)).alloc (.cells o S)).alloc (.cells #[d, e, f] T)).alloc (.cells #[x, y, z] T)).drew.cell? p := fun p hp => hb.cell (by rw [hs]; exact hp)
  exact ⟨(k ⟨w.heap.size, 0, none⟩ (by show w.heap.size < _; omega)).trans (by go_simp), (k ⟨w.heap.size, 1, none⟩ (by show w.heap.size < _; omega)).trans (by go_simp), (k ⟨w.heap.size, 2, none⟩ (by show w.heap.size < _; omega)).trans (by go_simp), (k ⟨w.heap.size + 1 + 1, 0, none⟩ (by show w.heap.size + 1 + 1 < _; omega)).trans (by go_simp), (k ⟨w.heap.size + 1 + 1, 1, none⟩ (by show w.heap.size + 1 + 1 < _; omega)).trans (by go_simp), (k ⟨w.heap.size + 1 + 1, 2, none⟩ (by show w.heap.size + 1 + 1 < _; omega)).trans (by go_simp), (k ⟨w.heap.size + 1 + 1 + 1, 0, none⟩ (by show w.heap.size + 1 + 1 + 1 < _; omega)).trans (by go_simp), (k ⟨w.heap.size + 1 + 1 + 1, 1, none⟩ (by show w.heap.size + 1 + 1 + 1 < _; omega)).trans (by go_simp), (k ⟨w.heap.size + 1 + 1 + 1, 2, none⟩ (by show w.heap.size + 1 + 1 + 1 < _; omega)).trans (by go_simp)⟩

set_option maxHeartbeats 4000000 in
set_option maxRecDepth 100000 in
theorem less_no1 (now hmn hmx : Int) (hh : Bool) (amn amx bmn bmx : Int) (ah bh : Bool) (w : World) (h : ¬ bmn ≤ amn) :
    Calls Try.prog 3 #[.int .i64 now, .agg #[.int .i64 hmn, .int .i64 hmx, .bool hh], .agg #[.int .i64 amn, .int .i64 amx, .bool ah, .int .i64 bmn, .int .i64 bmx, .bool bh]] w fun e w' => e = .returned (.bool true) ∧ Below w.heap.size w w' := by
  have g1 : decide (bmn ≤ amn) = false := by simp; omega
  clear h
  go_enter Try.func3, Try.ntmps3
  go_wp2_with fail
  go_region
  all_goals
    go_wp2_with (first
    | (go_at_call 9; refine (alive_any _).mono ?_; rintro e w3 ⟨rfl, hb3⟩))
    go_ret
    exact ⟨rfl, four_below hb3⟩

set_option maxHeartbeats 4000000 in
set_option maxRecDepth 100000 in
theorem less_no2 (now hmn hmx : Int) (hh : Bool) (amn amx bmn bmx : Int) (w : World) (h : bmn ≤ amn) :
    Calls Try.prog 3 #[.int .i64 now, .agg #[.int .i64 hmn, .int .i64 hmx, .bool hh], .agg #[.int .i64 amn, .int .i64 amx, .bool false, .int .i64 bmn, .int .i64 bmx, .bool true]] w fun e w' => e = .returned (.bool true) ∧ Below w.heap.size w w' := by
  have g1 : decide (bmn ≤ amn) = true := by simp; omega
  clear h
  go_enter Try.func3, Try.ntmps3
  go_wp2_with fail
  go_region
  all_goals
    go_wp2_with (first
    | (go_at_call 9; refine (alive_any _).mono ?_; rintro e w3 ⟨rfl, hb3⟩))
    go_ret
    exact ⟨rfl, four_below hb3⟩

set_option maxHeartbeats 4000000 in
set_option maxRecDepth 100000 in
theorem less_no3 (now hmn hmx : Int) (hh : Bool) (amn amx bmn bmx : Int) (w : World) (h : bmn ≤ amn) (h' : ¬ amx ≤ bmx) :
    Calls Try.prog 3 #[.int .i64 now, .agg #[.int .i64 hmn, .int .i64 hmx, .bool hh], .agg #[.int .i64 amn, .int .i64 amx, .bool true, .int .i64 bmn, .int .i64 bmx, .bool true]] w fun e w' => e = .returned (.bool true) ∧ Below w.heap.size w w' := by
  have g1 : decide (bmn ≤ amn) = true := by simp; omega
  have g2 : decide (amx ≤ bmx) = false := by simp; omega
  clear h h'
  go_enter Try.func3, Try.ntmps3
  go_wp2_with fail
  go_region
  all_goals
    go_wp2_with (first
    | (go_at_call 9; refine (alive_any _).mono ?_; rintro e w3 ⟨rfl, hb3⟩))
    go_ret
    exact ⟨rfl, four_below hb3⟩

set_option maxHeartbeats 4000000 in
set_option maxRecDepth 100000 in
theorem less_a_f (now hmn hmx : Int) (hh : Bool) (amn amx bmn bmx : Int) (ah : Bool) (w : World) (h : bmn ≤ amn) (ha : Ty.fits now hmx hh amn amx ah = false) :
    Calls Try.prog 3 #[.int .i64 now, .agg #[.int .i64 hmn, .int .i64 hmx, .bool hh], .agg #[.int .i64 amn, .int .i64 amx, .bool ah, .int .i64 bmn, .int .i64 bmx, .bool false]] w fun e w' => e = .returned (.bool true) ∧ Below w.heap.size w w' := by
  have g1 : decide (bmn ≤ amn) = true := by simp; omega
  clear h
  have HFa : Hid (∀ W : World, Calls Try.prog 8 #[.int .i64 now, .agg #[.int .i64 hmn, .int .i64 hmx, .bool hh], .agg #[.int .i64 amn, .int .i64 amx, .bool ah]] W fun e w' => e = .returned (.bool false) ∧ Below W.heap.size W w') := fun W => by have := fits_any now hmn hmx hh amn amx ah W; rw [ha] at this; exact this
  clear ha
  go_enter Try.func3, Try.ntmps3
  go_wp2_with fail
  go_region
  all_goals
    go_wp2_with (first
    | (go_at_call_of 8 (Value.agg #[.int .i64 amn, .int .i64 amx, .bool ah]); (with_reducible refine (HFa.out _).mono ?_); rintro e w1 ⟨rfl, hb1⟩; obtain ⟨q1, q2, q3, q4, q5, q6, q7, q8, q9⟩ := four_keep hb1; replace hb1 := four_below hb1)
    | (go_at_call 9; refine (alive_any _).mono ?_; rintro e w3 ⟨rfl, hb3⟩))
    go_ret
    exact ⟨rfl, hb1.trans (hb3.mono hb1.size)⟩

set_option maxHeartbeats 4000000 in
set_option maxRecDepth 100000 in
theorem less_a_t (now hmn hmx : Int) (hh : Bool) (amn amx bmn bmx : Int) (ah : Bool) (w : World) (h : bmn ≤ amn) (ha : Ty.fits now hmx hh amn amx ah = true) (hb : Ty.fits now hmx hh bmn bmx false = true) :
    Calls Try.prog 3 #[.int .i64 now, .agg #[.int .i64 hmn, .int .i64 hmx, .bool hh], .agg #[.int .i64 amn, .int .i64 amx, .bool ah, .int .i64 bmn, .int .i64 bmx, .bool false]] w fun e w' => e = .returned (.bool true) ∧ Below w.heap.size w w' := by
  have g1 : decide (bmn ≤ amn) = true := by simp; omega
  clear h
  have HFa : Hid (∀ W : World, Calls Try.prog 8 #[.int .i64 now, .agg #[.int .i64 hmn, .int .i64 hmx, .bool hh], .agg #[.int .i64 amn, .int .i64 amx, .bool ah]] W fun e w' => e = .returned (.bool true) ∧ Below W.heap.size W w') := fun W => by have := fits_any now hmn hmx hh amn amx ah W; rw [ha] at this; exact this
  have HFb : Hid (∀ W : World, Calls Try.prog 8 #[.int .i64 now, .agg #[.int .i64 hmn, .int .i64 hmx, .bool hh], .agg #[.int .i64 bmn, .int .i64 bmx, .bool false]] W fun e w' => e = .returned (.bool true) ∧ Below W.heap.size W w') := fun W => by have := fits_any now hmn hmx hh bmn bmx false W; rw [hb] at this; exact this
  clear ha hb
  go_enter Try.func3, Try.ntmps3
  go_wp2_with fail
  go_region
  all_goals
    go_wp2_with (first
    | (go_at_call_of 8 (Value.agg #[.int .i64 amn, .int .i64 amx, .bool ah]); (with_reducible refine (HFa.out _).mono ?_); rintro e w1 ⟨rfl, hb1⟩; obtain ⟨q1, q2, q3, q4, q5, q6, q7, q8, q9⟩ := four_keep hb1; replace hb1 := four_below hb1)
    | (go_at_call_of 8 (Value.agg #[.int .i64 bmn, .int .i64 bmx, .bool false]); (with_reducible refine (HFb.out _).mono ?_); rintro e w2 ⟨rfl, hb2⟩)
    | (go_at_call 9; refine (alive_any _).mono ?_; rintro e w3 ⟨rfl, hb3⟩))
    go_ret
    exact ⟨rfl, (hb1.trans (hb2.mono hb1.size)).trans (hb3.mono (Nat.le_trans hb1.size hb2.size))⟩

set_option maxHeartbeats 4000000 in
set_option maxRecDepth 100000 in
theorem less_b_f (now hmn hmx : Int) (hh : Bool) (amn amx bmn bmx : Int) (w : World) (h : bmn ≤ amn) (h' : amx ≤ bmx) (ha : Ty.fits now hmx hh amn amx true = false) :
    Calls Try.prog 3 #[.int .i64 now, .agg #[.int .i64 hmn, .int .i64 hmx, .bool hh], .agg #[.int .i64 amn, .int .i64 amx, .bool true, .int .i64 bmn, .int .i64 bmx, .bool true]] w fun e w' => e = .returned (.bool true) ∧ Below w.heap.size w w' := by
  have g1 : decide (bmn ≤ amn) = true := by simp; omega
  have g2 : decide (amx ≤ bmx) = true := by simp; omega
  clear h h'
  have HFa : Hid (∀ W : World, Calls Try.prog 8 #[.int .i64 now, .agg #[.int .i64 hmn, .int .i64 hmx, .bool hh], .agg #[.int .i64 amn, .int .i64 amx, .bool true]] W fun e w' => e = .returned (.bool false) ∧ Below W.heap.size W w') := fun W => by have := fits_any now hmn hmx hh amn amx true W; rw [ha] at this; exact this
  clear ha
  go_enter Try.func3, Try.ntmps3
  go_wp2_with fail
  go_region
  all_goals
    go_wp2_with (first
    | (go_at_call_of 8 (Value.agg #[.int .i64 amn, .int .i64 amx, .bool true]); (with_reducible refine (HFa.out _).mono ?_); rintro e w1 ⟨rfl, hb1⟩; obtain ⟨q1, q2, q3, q4, q5, q6, q7, q8, q9⟩ := four_keep hb1; replace hb1 := four_below hb1)
    | (go_at_call 9; refine (alive_any _).mono ?_; rintro e w3 ⟨rfl, hb3⟩))
    go_ret
    exact ⟨rfl, hb1.trans (hb3.mono hb1.size)⟩

set_option maxHeartbeats 4000000 in
set_option maxRecDepth 100000 in
theorem less_b_t (now hmn hmx : Int) (hh : Bool) (amn amx bmn bmx : Int) (w : World) (h : bmn ≤ amn) (h' : amx ≤ bmx) (ha : Ty.fits now hmx hh amn amx true = true) (hb : Ty.fits now hmx hh bmn bmx true = true) :
    Calls Try.prog 3 #[.int .i64 now, .agg #[.int .i64 hmn, .int .i64 hmx, .bool hh], .agg #[.int .i64 amn, .int .i64 amx, .bool true, .int .i64 bmn, .int .i64 bmx, .bool true]] w fun e w' => e = .returned (.bool true) ∧ Below w.heap.size w w' := by
  have g1 : decide (bmn ≤ amn) = true := by simp; omega
  have g2 : decide (amx ≤ bmx) = true := by simp; omega
  clear h h'
  have HFa : Hid (∀ W : World, Calls Try.prog 8 #[.int .i64 now, .agg #[.int .i64 hmn, .int .i64 hmx, .bool hh], .agg #[.int .i64 amn, .int .i64 amx, .bool true]] W fun e w' => e = .returned (.bool true) ∧ Below W.heap.size W w') := fun W => by have := fits_any now hmn hmx hh amn amx true W; rw [ha] at this; exact this
  have HFb : Hid (∀ W : World, Calls Try.prog 8 #[.int .i64 now, .agg #[.int .i64 hmn, .int .i64 hmx, .bool hh], .agg #[.int .i64 bmn, .int .i64 bmx, .bool true]] W fun e w' => e = .returned (.bool true) ∧ Below W.heap.size W w') := fun W => by have := fits_any now hmn hmx hh bmn bmx true W; rw [hb] at this; exact this
  clear ha hb
  go_enter Try.func3, Try.ntmps3
  go_wp2_with fail
  go_region
  all_goals
    go_wp2_with (first
    | (go_at_call_of 8 (Value.agg #[.int .i64 amn, .int .i64 amx, .bool true]); (with_reducible refine (HFa.out _).mono ?_); rintro e w1 ⟨rfl, hb1⟩; obtain ⟨q1, q2, q3, q4, q5, q6, q7, q8, q9⟩ := four_keep hb1; replace hb1 := four_below hb1)
    | (go_at_call_of 8 (Value.agg #[.int .i64 bmn, .int .i64 bmx, .bool true]); (with_reducible refine (HFb.out _).mono ?_); rintro e w2 ⟨rfl, hb2⟩)
    | (go_at_call 9; refine (alive_any _).mono ?_; rintro e w3 ⟨rfl, hb3⟩))
    go_ret
    exact ⟨rfl, (hb1.trans (hb2.mono hb1.size)).trans (hb3.mono (Nat.le_trans hb1.size hb2.size))⟩

theorem typesLess_walk (now hmn hmx : Int) (hh : Bool) (amn amx : Int) (ah : Bool) (bmn bmx : Int) (bh : Bool) (w : World) :
    Calls Try.prog 3 #[.int .i64 now, .agg #[.int .i64 hmn, .int .i64 hmx, .bool hh], .agg #[.int .i64 amn, .int .i64 amx, .bool ah, .int .i64 bmn, .int .i64 bmx, .bool bh]] w fun e w' => e = .returned (.bool true) ∧ Below w.heap.size w w' := by
  by_cases h1 : bmn ≤ amn
  · cases bh
    · cases hf : Ty.fits now hmx hh amn amx ah
      · exact less_a_f now hmn hmx hh amn amx bmn bmx ah w h1 hf
      · exact less_a_t now hmn hmx hh amn amx bmn bmx ah w h1 hf (fits_less h1 (.inl rfl) hf)
    · cases ah
      · exact less_no2 now hmn hmx hh amn amx bmn bmx w h1
      · by_cases h2 : amx ≤ bmx
        · cases hf : Ty.fits now hmx hh amn amx true
          · exact less_b_f now hmn hmx hh amn amx bmn bmx w h1 h2 hf
          · exact less_b_t now hmn hmx hh amn amx bmn bmx w h1 h2 hf (fits_less h1 (.inr ⟨rfl, h2⟩) hf)
        · exact less_no3 now hmn hmx hh amn amx bmn bmx w h1 h2
  · exact less_no1 now hmn hmx hh amn amx bmn bmx ah bh w h1
end Go.Proofs.Ytkljmdekihlkeaa
