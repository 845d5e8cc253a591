/-
  A Reader's sound, Err, At, Fail, End.
-/
import Derived.Test.YtagcildoebicnaaOctMem
set_option linter.unusedVariables false
namespace Go.Proofs.Ytagcildoebicnaa
open Go.RowKit

section
variable {W : World} {B g : Nat} {v : Value} {b : List UInt8} {s : Oct.St}
theorem RdrIn.c0 (h : RdrIn W B g v b s) : W.cell? ⟨g, 0, none⟩ = some (.bool true) := by rw [cell_of_row W g 0 _ _ _ h.blk]; rfl
theorem RdrIn.c1 (h : RdrIn W B g v b s) : W.cell? ⟨g, 1, none⟩ = some v := by rw [cell_of_row W g 1 _ _ _ h.blk]; rfl
theorem RdrIn.c2 (h : RdrIn W B g v b s) : W.cell? ⟨g, 2, none⟩ = some (.int .i64 (s.at_ : Int)) := by rw [cell_of_row W g 2 _ _ _ h.blk]; rfl
theorem RdrIn.c3 (h : RdrIn W B g v b s) : W.cell? ⟨g, 3, none⟩ = some (.int .i64 s.err) := by rw [cell_of_row W g 3 _ _ _ h.blk]; rfl
theorem RdrIn.f2 (h : RdrIn W B g v b s) : W.frozen? ⟨g, 2, none⟩ = false := frozen_of_row W g 2 _ _ h.blk
theorem RdrIn.f3 (h : RdrIn W B g v b s) : W.frozen? ⟨g, 3, none⟩ = false := frozen_of_row W g 3 _ _ h.blk
end

theorem sound_any {W : World} {B : Nat} {p v : Value} {b : List UInt8} {s : Oct.St} (h : RdrAt W B p v b s) :
    Calls Try.prog 81 #[p] W fun e w' => e = .returned (.bool (s.err == 0)) ∧ W = w' := by
  rcases h.it with ⟨rfl, -, h2, -⟩ | ⟨g, rfl, hi⟩
  · have H2 := Lib.hid (show (s.err == 0) = false by rw [h2]; rfl)
    clear h2 h
    go_enter Try.func81, Try.ntmps81
    go_wp2
    go_ret
    exact ⟨by rw [H2.out]; rfl, rfl⟩
  · have hc0 := hi.c0
    have hc3 := hi.c3
    clear hi h
    rcases h2 : (s.err == 0) with _ | _
    all_goals
      go_enter Try.func81, Try.ntmps81
      go_wp2
      go_ret
      exact ⟨rfl, rfl⟩
theorem err_any {W : World} {B : Nat} {p v : Value} {b : List UInt8} {s : Oct.St} (h : RdrAt W B p v b s) :
    Calls Try.prog 42 #[p] W fun e w' => e = .returned (.int .i64 s.err) ∧ W = w' := by
  rcases h.it with ⟨rfl, -, h2, -⟩ | ⟨g, rfl, hi⟩
  · have H2 := Lib.hid h2
    clear h2 h
    go_enter Try.func42, Try.ntmps42
    go_wp2
    go_ret
    exact ⟨by rw [H2.out]; rfl, rfl⟩
  · have hc0 := hi.c0
    have hc3 := hi.c3
    clear hi h
    go_enter Try.func42, Try.ntmps42
    go_wp2
    go_ret
    exact ⟨rfl, rfl⟩
theorem at_any {W : World} {B : Nat} {p v : Value} {b : List UInt8} {s : Oct.St} (h : RdrAt W B p v b s) :
    Calls Try.prog 48 #[p] W fun e w' => e = .returned (.int .i64 (s.at_ : Int)) ∧ W = w' := by
  rcases h.it with ⟨rfl, -, -, h2⟩ | ⟨g, rfl, hi⟩
  · have H2 := Lib.hid h2
    clear h2 h
    go_enter Try.func48, Try.ntmps48
    go_wp2
    go_ret
    exact ⟨by rw [H2.out]; rfl, rfl⟩
  · have hc2 := hi.c2
    clear hi h
    go_enter Try.func48, Try.ntmps48
    go_wp2
    go_ret
    exact ⟨rfl, rfl⟩
theorem fail_any {W : World} {B : Nat} {p v : Value} {b : List UInt8} {s : Oct.St} (h : RdrAt W B p v b s) (e0 : Int) :
    Calls Try.prog 46 #[p, .int .i64 e0] W fun e w' => e = .returned (.tuple #[]) ∧ RStep W B p v b (s.fail e0) w' := by
  rcases h2 : (s.err == 0) with _ | _
  · have h3 : s.fail e0 = s := by unfold Oct.St.fail; rw [if_neg (by simpa using h2)]
    rw [h3]
    have H2 := Lib.hid h2
    clear h2 h3
    go_enter Try.func46, Try.ntmps46
    go_wp2_with (go_at_call 81; refine (sound_any h).mono ?_; rintro e w1 ⟨rfl, rfl⟩; rw [H2.out])
    go_end0
    exact ⟨rfl, .same h⟩
  · have h3 : s.fail e0 = ⟨s.at_, e0⟩ := by unfold Oct.St.fail; rw [if_pos (by simpa using h2)]
    rw [h3]
    have H2 := Lib.hid h2
    clear h3
    rcases h.it with ⟨rfl, -, h4, -⟩ | ⟨g, rfl, hi⟩
    · rw [h4] at h2; cases h2
    · clear h2
      have hf := hi.f3
      have hc3 := hi.c3
      go_enter Try.func46, Try.ntmps46
      go_wp2_with (go_at_call 81; refine (sound_any h).mono ?_; rintro e w1 ⟨rfl, rfl⟩; rw [H2.out])
      go_end0
      refine ⟨rfl, hi.set ?_ ((Below.refl _ _).setCell hi.lo _) (fun k _ hk => Below.heap_setCell _ _ _ _ hk) hi.le⟩
      rw [Go.heap_setCell_same W g 3 _ _ _ hi.blk]; rfl
theorem end_any {W : World} {B : Nat} {p v : Value} {b : List UInt8} {s : Oct.St} (h : RdrAt W B p v b s) :
    Calls Try.prog 45 #[p] W fun e w' => e = .returned (.int .i64 (if s.err = 0 then (if s.at_ = b.length then 0 else 5) else s.err)) ∧ ∃ q, w' = W.drewN q := by
  have hE := err_any h
  rcases h.it with ⟨rfl, -, h2, -⟩ | ⟨g, rfl, hi⟩
  · rw [h2] at hE ⊢
    have HE := Lib.hid hE
    clear h2 h hE
    go_enter Try.func45, Try.ntmps45
    go_wp2_with (go_at_call 42; refine HE.out.mono ?_; rintro e w1 ⟨rfl, rfl⟩)
    go_quiet (fail)
    go_wp2
    go_ret
    exact ⟨rfl, _, rfl⟩
  · have HE := Lib.hid hE
    clear hE
    obtain ⟨A, c, rfl, _⟩ := own_slice hi.row
    have hc1 := hi.c1
    have hc2 := hi.c2
    clear h
    rcases h2 : (s.err == 0) with _ | _
    · have h3 : ¬ s.err = 0 := by simpa using h2
      have h4 : (s.err != 0) = true := by simpa using h2
      rw [if_neg h3]
      clear h3 hi
      go_enter Try.func45, Try.ntmps45
      go_wp2_with (go_at_call 42; refine HE.out.mono ?_; rintro e w1 ⟨rfl, rfl⟩)
      go_quiet (fail)
      go_wp2
      go_ret
      exact ⟨rfl, _, rfl⟩
    · have h3 : s.err = 0 := by simpa using h2
      rw [if_pos h3]
      rw [h3] at HE
      clear h3 h2 hi
      have H5 : Hid (∀ x : Int, (((s.at_ : Int) == (b.length : Int)) = true → x = 0) → (((s.at_ : Int) == (b.length : Int)) = false → x = 5) → (if s.at_ = b.length then (0 : Int) else 5) = x) := by
        intro x h1 h2
        split
        · rename_i h; exact (h1 (by rw [h]; simp)).symm
        · rename_i h; exact (h2 (by simpa using fun e : (s.at_ : Int) = (b.length : Int) => h (by omega))).symm
      generalize (if s.at_ = b.length then (0 : Int) else 5) = y at H5 ⊢
      go_enter Try.func45, Try.ntmps45
      go_wp2_with (go_at_call 42; refine HE.out.mono ?_; rintro e w1 ⟨rfl, rfl⟩)
      go_quiet (fail)
      go_wp2
      all_goals
        go_ret
        rename_i hx
        refine ⟨?_, _, rfl⟩
        first
          | (rw [H5.out 0 (fun _ => rfl) (fun h => by rw [hx] at h; cases h)]; rfl)
          | (rw [H5.out 5 (fun h => by rw [hx] at h; cases h) (fun _ => rfl)]; rfl)
end Go.Proofs.Ytagcildoebicnaa
