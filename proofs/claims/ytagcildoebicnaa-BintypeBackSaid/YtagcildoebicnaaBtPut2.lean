/-
  The writes of layer 10: block types, lists of value types, function types.
-/
import Derived.Test.YtagcildoebicnaaBtEq
set_option linter.unusedVariables false
namespace Go.Proofs.Ytagcildoebicnaa
open Go.RowKit

set_option maxHeartbeats 4000000 in
set_option maxRecDepth 100000 in
theorem putBlock_any {W : World} {B : Nat} {p v : Value} {s : Oct.Wt} (h : WrAt W B p v s) (x : Oct.Blk) (hlen : s.b.length ≤ 8000000) :
    Calls Try.prog 14 #[p, .agg #[.int .i64 x.kind, .int .i64 x.val, .int .i64 x.idx]] W fun e w' => e = .returned (.tuple #[]) ∧ WStep W B p v (Oct.putBlock s x) w' := by
  obtain ⟨k, t, i⟩ := x
  dsimp only
  have heq := eq_blk k t i 0 0 0
  have hb : Below W.heap.size W (W.alloc (.cells #[.int .i64 k, .int .i64 t, .int .i64 i] 25)) := (Below.refl _ _).alloc (Nat.le_refl _) _
  have HR := Lib.hid (fun w => val_any t w)
  have hB := h.base
  have h0 := h.below hb
  have HF := Lib.hid (wfail_any h0 12)
  have HV := Lib.hid (putVal_any h0 t (by omega))
  have HS := Lib.hid (wS33_any h0 i (by omega))
  have HB := Lib.hid (wbyte_any h0 64 (by decide) (by decide) (by omega))
  rcases hz : (k == 0 && t == 0 && i == 0) with _ | _
  · rw [hz] at heq
    by_cases hk1 : k = 1
    · subst hk1
      rcases hi0 : (i == 0) with _ | _
      · have hp : Oct.putBlock s ⟨1, t, i⟩ = s.fail 12 := by unfold Oct.putBlock Oct.blkOk; simp [hi0]
        rw [hp]
        clear hp hz
        go_enter Try.func14, Try.ntmps14
        go_wp2_with (first | (go_at_call 50; refine (HR.out _).mono ?_; rintro e w1 ⟨rfl, rfl⟩) | (go_at_call 47; refine HF.out.mono ?_; rintro e w1 ⟨rfl, st⟩))
        go_wp2
        go_end0
        exact ⟨rfl, .trans (Trn.of_below hB hb) st⟩
      · rcases hv : Ty.val t with _ | _
        · have hp : Oct.putBlock s ⟨1, t, i⟩ = s.fail 12 := by unfold Oct.putBlock Oct.blkOk; simp [hv]
          rw [hv] at HR
          rw [hp]
          clear hp hz
          go_enter Try.func14, Try.ntmps14
          go_wp2_with (first | (go_at_call 50; refine (HR.out _).mono ?_; rintro e w1 ⟨rfl, rfl⟩) | (go_at_call 47; refine HF.out.mono ?_; rintro e w1 ⟨rfl, st⟩))
          go_wp2
          go_end0
          exact ⟨rfl, .trans (Trn.of_below hB hb) st⟩
        · have hp : Oct.putBlock s ⟨1, t, i⟩ = Oct.putVal s t := by unfold Oct.putBlock Oct.blkOk; simp [hv, hi0]
          rw [hv] at HR
          rw [hp]
          clear hp hz
          go_enter Try.func14, Try.ntmps14
          go_wp2_with (first | (go_at_call 50; refine (HR.out _).mono ?_; rintro e w1 ⟨rfl, rfl⟩) | (go_at_call 21; refine HV.out.mono ?_; rintro e w1 ⟨rfl, st⟩))
          go_wp2
          go_end0
          exact ⟨rfl, .trans (Trn.of_below hB hb) st⟩
    · have hk1' : (k == 1) = false := by simpa using hk1
      by_cases hk2 : k = 2
      · subst hk2
        rcases ht0 : (t == 0) with _ | _
        · have hp : Oct.putBlock s ⟨2, t, i⟩ = s.fail 12 := by unfold Oct.putBlock Oct.blkOk; simp [ht0]
          rw [hp]
          clear hp hz
          go_enter Try.func14, Try.ntmps14
          go_wp2_with (first | (go_at_call 50; refine (HR.out _).mono ?_; rintro e w1 ⟨rfl, rfl⟩) | (go_at_call 47; refine HF.out.mono ?_; rintro e w1 ⟨rfl, st⟩))
          go_wp2
          go_end0
          exact ⟨rfl, .trans (Trn.of_below hB hb) st⟩
        · rcases hi0 : decide (0 ≤ i) with _ | _
          · have hp : Oct.putBlock s ⟨2, t, i⟩ = s.fail 12 := by unfold Oct.putBlock Oct.blkOk; simp [hi0]
            rw [hp]
            clear hp hz
            go_enter Try.func14, Try.ntmps14
            go_wp2_with (first | (go_at_call 50; refine (HR.out _).mono ?_; rintro e w1 ⟨rfl, rfl⟩) | (go_at_call 47; refine HF.out.mono ?_; rintro e w1 ⟨rfl, st⟩))
            go_wp2
            go_end0
            exact ⟨rfl, .trans (Trn.of_below hB hb) st⟩
          · rcases hi1 : decide (i ≤ 4294967295) with _ | _
            · have hp : Oct.putBlock s ⟨2, t, i⟩ = s.fail 12 := by unfold Oct.putBlock Oct.blkOk; simp [hi1]
              rw [hp]
              clear hp hz
              go_enter Try.func14, Try.ntmps14
              go_wp2_with (first | (go_at_call 50; refine (HR.out _).mono ?_; rintro e w1 ⟨rfl, rfl⟩) | (go_at_call 47; refine HF.out.mono ?_; rintro e w1 ⟨rfl, st⟩))
              go_wp2
              go_end0
              exact ⟨rfl, .trans (Trn.of_below hB hb) st⟩
            · have hp : Oct.putBlock s ⟨2, t, i⟩ = Oct.putS33 s i := by unfold Oct.putBlock Oct.blkOk; simp [hi0, hi1, ht0]
              rw [hp]
              clear hp hz
              go_enter Try.func14, Try.ntmps14
              go_wp2_with (first | (go_at_call 50; refine (HR.out _).mono ?_; rintro e w1 ⟨rfl, rfl⟩) | (go_at_call 51; refine HS.out.mono ?_; rintro e w1 ⟨rfl, st⟩))
              go_wp2
              go_end0
              exact ⟨rfl, .trans (Trn.of_below hB hb) st⟩
      · have hk2' : (k == 2) = false := by simpa using hk2
        have hp : Oct.putBlock s ⟨k, t, i⟩ = s.fail 12 := by unfold Oct.putBlock Oct.blkOk; simp [hk1', hk2', hz]
        clear hk1 hk2
        rw [hp]
        clear hp hz
        go_enter Try.func14, Try.ntmps14
        go_wp2_with (first | (go_at_call 50; refine (HR.out _).mono ?_; rintro e w1 ⟨rfl, rfl⟩) | (go_at_call 47; refine HF.out.mono ?_; rintro e w1 ⟨rfl, st⟩))
        go_wp2
        go_end0
        exact ⟨rfl, .trans (Trn.of_below hB hb) st⟩
  · rw [hz] at heq
    have hz' : k = 0 ∧ t = 0 ∧ i = 0 := by simp at hz; omega
    have hp : Oct.putBlock s ⟨k, t, i⟩ = s.bytes [Oct.b8 64] := by unfold Oct.putBlock Oct.blkOk; rw [hz'.1, hz'.2.1, hz'.2.2]; simp; rfl
    clear hz'
    rw [hp]
    clear hp hz
    go_enter Try.func14, Try.ntmps14
    go_wp2_with (first | (go_at_call 50; refine (HR.out _).mono ?_; rintro e w1 ⟨rfl, rfl⟩) | (go_at_call 49; refine HB.out.mono ?_; rintro e w1 ⟨rfl, st⟩))
    go_wp2
    go_end0
    exact ⟨rfl, .trans (Trn.of_below hB hb) st⟩
end Go.Proofs.Ytagcildoebicnaa
