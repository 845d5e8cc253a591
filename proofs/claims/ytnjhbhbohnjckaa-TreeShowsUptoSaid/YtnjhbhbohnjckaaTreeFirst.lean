/-
  The walks of first and of the reference's lists.
-/
import Derived.Test.YtnjhbhbohnjckaaTreeCount
set_option linter.unusedVariables false
set_option linter.unusedSimpArgs false
namespace Go.Proofs.Ytnjhbhbohnjckaa
open Go.RowKit
open Tree (Tr)

namespace Tree
/-- The index of the first list, or the length. -/
def firstL : List Tr → Nat
  | [] => 0
  | n :: l => if n.kind = 0 then 0 else firstL l + 1
theorem firstL_le (l : List Tr) : firstL l ≤ l.length := by
  induction l with
  | nil => simp [firstL]
  | cons n l ih => rw [firstL, List.length_cons]; split <;> omega
theorem firstL_step : ∀ (l : List Tr) (j : Nat) (h : j < l.length), j ≤ firstL l → (l[j].kind = 0 → firstL l = j) ∧ (¬ l[j].kind = 0 → j + 1 ≤ firstL l)
  | [], j, h, _ => by simp at h
  | n :: l, 0, h, _ => by
    rw [firstL]
    simp only [List.getElem_cons_zero]
    exact ⟨fun h0 => if_pos h0, fun h0 => by rw [if_neg h0]; omega⟩
  | n :: l, j + 1, h, hj => by
    rw [firstL] at hj ⊢
    simp only [List.getElem_cons_succ]
    split at hj
    · omega
    · rename_i hn
      have := firstL_step l j (by simpa using h) (by omega)
      rw [if_neg hn]
      exact ⟨fun h0 => by rw [this.1 h0], fun h0 => by have := this.2 h0; omega⟩
end Tree

set_option maxHeartbeats 2000000 in
set_option maxRecDepth 100000 in
theorem lists_any (l : List Tr) (A : Option Addr) (c : Nat) (S : Nat → Prop) (w : World) (hl : Lies w S A l) (hS : ∀ g, S g → g < w.heap.size) (hct : l.length ≤ 1000000) :
    Calls Try.prog 45 #[.slice A l.length c] w fun e w' => e = .returned (.int .i64 (Tree.firstL l : Nat)) ∧ w' = w := by
  have HL := Lib.hid hl
  clear hl
  have hfl := Tree.firstL_le l
  go_enter Try.func45, Try.ntmps45
  go_wp2
  go_loopw [3] (fun i wr => ∃ j : Nat, j ≤ l.length ∧ i = .int .i64 j ∧ j ≤ Tree.firstL l ∧ wr = w) (fun i _ => l.length - (intOf i).toNat)
  case atStart => exact ⟨0, by omega, rfl, by omega, rfl⟩
  case round =>
    obtain ⟨j, hj, rfl, hjf, rfl⟩ := hrel
    by_cases hjl : j < l.length
    · obtain ⟨g, o, rfl, hg, d0, d1, d2, A', c', d3, hl', -⟩ := HL.out.get j hjl
      have hi0 : (0 : Int) ≤ (j : Int) := Int.natCast_nonneg _
      have hi1 : (j : Int) < (l.length : Int) := by omega
      have hst := Tree.firstL_step l j hjl hjf
      obtain ⟨kd, hkd⟩ : ∃ kd, l[j].kind = kd := ⟨_, rfl⟩
      rw [hkd] at d0 hst
      clear d1 d2 d3 hl' hkd
      by_cases h0 : kd = 0
      · have g0 : (kd == 0) = true := by simpa using h0
        have HE := Lib.hid (hst.1 h0)
        subst h0
        clear hst
        go_wp2
        go_ret
        exact ⟨by rw [HE.out]; rfl, rfl⟩
      · have g0 : (kd == 0) = false := by simpa using h0
        have hn := hst.2 h0
        clear hst h0
        go_wp2
        go_roundw
        case rel => exact ⟨j + 1, by omega, by go_num, hn, by trivial⟩
        case measure => simp [intOf]; omega
    · have he : Tree.firstL l = l.length := by omega
      have HE := Lib.hid he
      clear he
      go_wp2
      go_ret
      exact ⟨by rw [HE.out]; rfl, rfl⟩
set_option maxHeartbeats 2000000 in
set_option maxRecDepth 100000 in
theorem first_any (l : List Tr) (k p : Int) (t : ByteArray) (A : Option Addr) (c : Nat) (S : Nat → Prop) (w : World) (hl : Lies w S A l) (hS : ∀ g, S g → g < w.heap.size) (hct : l.length ≤ 1000000) (r : Int) (hr : (if k = 0 ∧ Tree.firstL l < l.length then (Tree.firstL l : Int) else -1) = r) :
    Calls Try.prog 43 #[.agg #[.int .i64 k, .int .i64 p, .string t, .slice A l.length c]] w fun e w' => e = .returned (.int .i64 r) ∧ Below w.heap.size w w' := by
  have HL := Lib.hid hl
  clear hl
  have hfl := Tree.firstL_le l
  by_cases hk : k = 0
  rotate_left
  · have g1 : (k == 0) = false := by simpa using hk
    have g2 : (k != 0) = true := by simpa using hk
    rw [if_neg (fun h => hk h.1)] at hr
    subst hr
    clear hk
    go_enter Try.func43, Try.ntmps43
    go_wp2
    go_ret
    exact ⟨rfl, (Below.refl _ _).alloc (Nat.le_refl _) _⟩
  subst hk
  have HRR := Lib.hid hr
  clear hr
  go_enter Try.func43, Try.ntmps43
  go_wp2
  go_loopw [11] (fun i wr => ∃ j : Nat, j ≤ l.length ∧ i = .int .i64 j ∧ j ≤ Tree.firstL l ∧ Below w.heap.size w wr) (fun i _ => l.length - (intOf i).toNat)
  case atStart => exact ⟨0, by omega, rfl, by omega, (Below.refl _ _).alloc (Nat.le_refl _) _⟩
  case round =>
    obtain ⟨j, hj, rfl, hjf, hb⟩ := hrel
    by_cases hjl : j < l.length
    · obtain ⟨g, o, rfl, hg, c0, c1, c2, A', c', c3, hl', -⟩ := HL.out.get j hjl
      have hsz := hb.size
      have hgl := hS _ hg
      have d0 := (hb.cell (p := ⟨g, o + j * 4, none⟩) hgl).trans c0
      have d1 := (hb.cell (p := ⟨g, o + j * 4 + 1, none⟩) hgl).trans c1
      have d2 := (hb.cell (p := ⟨g, o + j * 4 + 2, none⟩) hgl).trans c2
      have d3 := (hb.cell (p := ⟨g, o + j * 4 + 3, none⟩) hgl).trans c3
      have hi0 : (0 : Int) ≤ (j : Int) := Int.natCast_nonneg _
      have hi1 : (j : Int) < (l.length : Int) := by omega
      have hst := Tree.firstL_step l j hjl hjf
      obtain ⟨kd, hkd⟩ : ∃ kd, l[j].kind = kd := ⟨_, rfl⟩
      rw [hkd] at d0 hst
      obtain ⟨tx, htx⟩ : ∃ tx, (⟨l[j].text.toArray⟩ : ByteArray) = tx := ⟨_, rfl⟩
      obtain ⟨ps, hps⟩ : ∃ ps, l[j].pos = ps := ⟨_, rfl⟩
      obtain ⟨ln, hln⟩ : ∃ ln, l[j].l.length = ln := ⟨_, rfl⟩
      rw [hps] at d1
      rw [htx] at d2
      rw [hln] at d3
      have hb1 := hb.alloc hsz (Obj.cells #[.int .i64 kd, .int .i64 ps, .string tx, .slice A' ln c'] 36)
      clear c0 c1 c2 c3 hl' hkd htx hps hln
      by_cases h0 : kd = 0
      · have g0 : (kd == 0) = true := by simpa using h0
        have HE := Lib.hid (hst.1 h0)
        subst h0
        clear hst
        go_wp2
        go_ret
        exact ⟨by rw [← HRR.out, HE.out, if_pos ⟨by trivial, hjl⟩]; rfl, hb1⟩
      · have g0 : (kd == 0) = false := by simpa using h0
        have hn := hst.2 h0
        clear hst h0
        go_wp2
        go_roundw
        case rel => exact ⟨j + 1, by omega, by go_num, hn, hb1⟩
        case measure => simp [intOf]; omega
    · have he : Tree.firstL l = l.length := by omega
      have HE := Lib.hid he
      clear he
      go_wp2
      go_ret
      exact ⟨by rw [← HRR.out, HE.out, if_neg (fun h => absurd h.2 (Nat.lt_irrefl _))]; rfl, hb⟩
end Go.Proofs.Ytnjhbhbohnjckaa
