/-
  A Reader's numbers: unsigned, signed, U32, S33, Count.
-/
import Derived.Test.YtagcildoebicnaaOctRd1
set_option linter.unusedVariables false
namespace Go.Proofs.Ytagcildoebicnaa
open Go.RowKit

theorem elem_bytes : Try.prog.elem 22 = 5 := by kernel_rfl
/-- 'b[at:]' under one name. -/
theorem slice_from (A : Option Addr) (n c k : Nat) (hk : k ≤ n) (hc : n ≤ c) (w : World) :
    (Instr.slice 22 (.slice A n c) (some (.int .i64 (k : Int))) none none).run Try.prog w = .ok (.slice (if c = k then A else A.map (·.add (k * 1))) (n - k) (c - k)) w := by
  have hu : Try.prog.underlying 22 = some (.slice (Try.prog.elem 22)) := by kernel_rfl
  have hs : (sizeOf (Try.prog.elem 22)).run Try.prog w = .ok 1 w := by kernel_rfl
  rw [run_slice_l w _ A n c hu .i64 (k : Int) (by omega) (by omega), hs]
  rfl

theorem RdB.from_ {w : World} {B : Nat} {A : Option Addr} {b : List UInt8} (h : RdB w B A b) {k c : Nat} (hk : k ≤ b.length) (hc : b.length ≤ c) : RdB w B (if c = k then A else A.map (·.add (k * 1))) (b.drop k) := by
  have := Reads.cut h hk hc
  unfold RdB
  rw [Nat.mul_one, rb_drop] at this
  rw [Nat.mul_one, List.length_drop]
  exact this

namespace Oct
theorem u32_no {b : List UInt8} {s : St} (h : ¬ s.err = 0) : u32 b s = (s, 0) := by unfold u32 uns; rw [if_neg h]
theorem u32_er {b : List UInt8} {s : St} {er : Int} (h : s.err = 0) (hu : Leb.uF (b.drop s.at_) 32 = (0, 0, er)) (hne : ¬ er = 0) : u32 b s = (⟨s.at_, er⟩, 0) := by
  unfold u32 uns; rw [if_pos h, hu]; dsimp only; rw [if_neg hne]
theorem u32_ok {b : List UInt8} {s : St} {n k : Nat} (h : s.err = 0) (hu : Leb.uF (b.drop s.at_) 32 = ((n : Int), (k : Int), 0)) : u32 b s = (⟨s.at_ + k, 0⟩, (n : Int)) := by
  unfold u32 uns; rw [if_pos h, hu]; dsimp only; rw [if_pos rfl]; rfl
theorem s33_no {b : List UInt8} {s : St} (h : ¬ s.err = 0) : sig b s 33 = (s, 0) := by unfold sig; rw [if_neg h]
theorem s33_er {b : List UInt8} {s : St} {er : Int} (h : s.err = 0) (hu : Leb.sF (b.drop s.at_) 33 = (0, 0, er)) (hne : ¬ er = 0) : sig b s 33 = (⟨s.at_, er⟩, 0) := by
  unfold sig; rw [if_pos h, hu]; dsimp only; rw [if_neg hne]
theorem s33_ok {b : List UInt8} {s : St} {n : Int} {k : Nat} (h : s.err = 0) (hu : Leb.sF (b.drop s.at_) 33 = (n, (k : Int), 0)) : sig b s 33 = (⟨s.at_ + k, 0⟩, n) := by
  unfold sig; rw [if_pos h, hu]; dsimp only; rw [if_pos rfl]; rfl
/-- The three ways of a number. -/
theorem u32_ways (b : List UInt8) (s : St) : (¬ s.err = 0 ∧ u32 b s = (s, 0)) ∨ (s.err = 0 ∧ ∃ er : Int, (er == 0) = false ∧ Leb.uF (b.drop s.at_) 32 = (0, 0, er) ∧ u32 b s = (⟨s.at_, er⟩, 0)) ∨
    (s.err = 0 ∧ ∃ n k : Nat, n < 4294967296 ∧ s.at_ + k ≤ max b.length s.at_ ∧ Leb.uF (b.drop s.at_) 32 = ((n : Int), (k : Int), 0) ∧ u32 b s = (⟨s.at_ + k, 0⟩, (n : Int))) := by
  by_cases h : s.err = 0
  · rcases Leb.uF_short (b.drop s.at_) 32 (by omega) (by omega) with ⟨er, hne, hu⟩ | ⟨n, k, hu, -, hk, hn⟩
    · exact .inr (.inl ⟨h, er, hne, hu, u32_er h hu (by simpa using hne)⟩)
    · exact .inr (.inr ⟨h, n, k, by omega, by rw [List.length_drop] at hk; omega, hu, u32_ok h hu⟩)
  · exact .inl ⟨h, u32_no h⟩
theorem s33_ways (b : List UInt8) (s : St) : (¬ s.err = 0 ∧ sig b s 33 = (s, 0)) ∨ (s.err = 0 ∧ ∃ er : Int, (er == 0) = false ∧ Leb.sF (b.drop s.at_) 33 = (0, 0, er) ∧ sig b s 33 = (⟨s.at_, er⟩, 0)) ∨
    (s.err = 0 ∧ ∃ (n : Int) (k : Nat), -4294967296 ≤ n ∧ n < 4294967296 ∧ s.at_ + k ≤ max b.length s.at_ ∧ Leb.sF (b.drop s.at_) 33 = (n, (k : Int), 0) ∧ sig b s 33 = (⟨s.at_ + k, 0⟩, n)) := by
  by_cases h : s.err = 0
  · rcases Leb.sF_short (b.drop s.at_) 33 (by omega) (by omega) with ⟨er, hne, hu⟩ | ⟨n, k, hu, -, hk, hn⟩
    · exact .inr (.inl ⟨h, er, hne, hu, s33_er h hu (by simpa using hne)⟩)
    · unfold Leb.FitsS at hn
      exact .inr (.inr ⟨h, n, k, by have := hn.1; simp at this; omega, by have := hn.2; simp at this; omega, by rw [List.length_drop] at hk; omega, hu, s33_ok h hu⟩)
  · exact .inl ⟨h, s33_no h⟩
end Oct

set_option maxHeartbeats 1000000 in
set_option maxRecDepth 100000 in
theorem unsigned_any {W : World} {B : Nat} {p v : Value} {b : List UInt8} {s : Oct.St} (h : RdrAt W B p v b s) :
    Calls Try.prog 95 #[p, .int .i64 32] W fun e w' => e = .returned (.int .u64 (Oct.u32 b s).2) ∧ RStep W B p v b (Oct.u32 b s).1 w' := by
  have HS := Lib.hid (sound_any h)
  rcases Oct.u32_ways b s with ⟨h0, h3⟩ | ⟨h0, er, hne, hu, h3⟩ | ⟨h0, n, k, hn, hk, hu, h3⟩
  · rw [h3]
    rw [show (s.err == 0) = false by simpa using h0] at HS
    clear h3 h0
    go_enter Try.func95, Try.ntmps95
    go_wp2_with (go_at_call 81; refine HS.out.mono ?_; rintro e w1 ⟨rfl, rfl⟩)
    go_ret
    exact ⟨rfl, .same h⟩
  all_goals
    rw [h3]
    clear h3
    rcases h.it with ⟨-, -, h4, -⟩ | ⟨g, rfl, hi⟩
    · rw [h4] at h0; cases h0
    rw [show (s.err == 0) = true by simpa using h0] at HS
    obtain ⟨A, c, rfl, hlc, _⟩ := own_slice hi.row
    have hle := hi.le
    have hbig := hi.big
    have hr := (RdB.of_own hi.row).from_ hle hlc
    have hsl := fun w => slice_from A b.length c s.at_ hle hlc w
    generalize (if c = s.at_ then A else A.map (·.add (s.at_ * 1))) = A1 at hr hsl
    have hc1 := hi.c1
    have hc2 := hi.c2
    have hf := hi.f2
    have hg := lt_of_heap hi.blk
    have HL := Lib.hid (show (b.drop s.at_).length = b.length - s.at_ from List.length_drop)
    have hl6 : (b.drop s.at_).length ≤ 1000000000 := by rw [List.length_drop]; omega
    have hcall : ∀ (x : Int × Int × Int), Leb.uF (b.drop s.at_) 32 = x → ∀ q : Nat, Calls Try.prog 104 #[.slice A1 (b.length - s.at_) (c - s.at_), .int .i64 32] (W.drewN q) fun e w' => e = .returned (.tuple #[.int .u64 x.1, .int .i64 x.2.1, .int .i64 x.2.2]) ∧ ∃ m, w' = W.drewN m := by
      intro x hx q
      refine (u_len (w := W.drewN q) A1 _ _ 32 _ HL.out (hr.drewN q) hl6).mono ?_
      rintro e w1 ⟨rfl, rfl⟩
      exact ⟨by rw [hx], q, rfl⟩
    have HU := Lib.hid (hcall _ hu)
    clear hu hcall
  · have hF : s.fail er = ⟨s.at_, er⟩ := by unfold Oct.St.fail; rw [if_pos h0]
    have HF : Hid (∀ w1 : World, RdrAt w1 B (.pointer (some ⟨g, 0, none⟩)) (.slice A b.length c) b s → Calls Try.prog 46 #[.pointer (some ⟨g, 0, none⟩), .int .i64 er] w1 fun e w' => e = .returned (.tuple #[]) ∧ RStep w1 B (.pointer (some ⟨g, 0, none⟩)) (.slice A b.length c) b ⟨s.at_, er⟩ w') := by
      intro w1 hw; rw [← hF]; exact fail_any hw er
    have hne'' : (er != 0) = true := by simpa using hne
    clear hF h0
    go_enter Try.func95, Try.ntmps95
    go_wp2_with (go_at_call 81; refine HS.out.mono ?_; rintro e w1 ⟨rfl, rfl⟩)
    go_quiet ((go_at_call 104; exact HU.out _))
    go_wp2_with (go_at_call 46; refine (HF.out _ (h.below (below_drewN_ (Below.refl _ _) _))).mono ?_; rintro e w1 ⟨rfl, hst⟩)
    go_ret
    exact ⟨rfl, (RStep.below h (below_drewN_ (Below.refl _ _) _)).trans hst⟩
  · have hk' : s.at_ + k ≤ b.length := by omega
    have hd : ∀ q, (W.drewN q).cell? ⟨g, 2, none⟩ = some (.int .i64 (s.at_ : Int)) := fun q => hc2
    have hfd : ∀ q, (W.drewN q).frozen? ⟨g, 2, none⟩ = false := fun q => hf
    have HE0 := Lib.hid h0
    clear h0
    go_enter Try.func95, Try.ntmps95
    go_wp2_with (go_at_call 81; refine HS.out.mono ?_; rintro e w1 ⟨rfl, rfl⟩)
    go_quiet ((go_at_call 104; exact HU.out _))
    go_wp2
    go_ret
    refine ⟨rfl, (RStep.below h (below_drewN_ (Below.refl _ _) nq)).trans ((hi.keep (W' := W.drewN nq) rfl (fun _ _ => rfl)).set (s' := ⟨s.at_ + k, 0⟩) ?_ ((Below.refl _ _).setCell hi.lo _) (fun j _ hj => Below.heap_setCell _ _ _ _ hj) hk')⟩
    rw [Go.heap_setCell_same (W.drewN nq) g 2 _ _ _ hi.blk]
    simp only [HE0.out]
    rfl

set_option maxHeartbeats 1000000 in
set_option maxRecDepth 100000 in
theorem signed_any {W : World} {B : Nat} {p v : Value} {b : List UInt8} {s : Oct.St} (h : RdrAt W B p v b s) :
    Calls Try.prog 86 #[p, .int .i64 33] W fun e w' => e = .returned (.int .i64 (Oct.sig b s 33).2) ∧ RStep W B p v b (Oct.sig b s 33).1 w' := by
  have HS := Lib.hid (sound_any h)
  rcases Oct.s33_ways b s with ⟨h0, h3⟩ | ⟨h0, er, hne, hu, h3⟩ | ⟨h0, n, k, hn, hn2, hk, hu, h3⟩
  · rw [h3]
    rw [show (s.err == 0) = false by simpa using h0] at HS
    clear h3 h0
    go_enter Try.func86, Try.ntmps86
    go_wp2_with (go_at_call 81; refine HS.out.mono ?_; rintro e w1 ⟨rfl, rfl⟩)
    go_ret
    exact ⟨rfl, .same h⟩
  all_goals
    rw [h3]
    clear h3
    rcases h.it with ⟨-, -, h4, -⟩ | ⟨g, rfl, hi⟩
    · rw [h4] at h0; cases h0
    rw [show (s.err == 0) = true by simpa using h0] at HS
    obtain ⟨A, c, rfl, hlc, _⟩ := own_slice hi.row
    have hle := hi.le
    have hbig := hi.big
    have hr := (RdB.of_own hi.row).from_ hle hlc
    have hsl := fun w => slice_from A b.length c s.at_ hle hlc w
    generalize (if c = s.at_ then A else A.map (·.add (s.at_ * 1))) = A1 at hr hsl
    have hc1 := hi.c1
    have hc2 := hi.c2
    have hf := hi.f2
    have hg := lt_of_heap hi.blk
    have HL := Lib.hid (show (b.drop s.at_).length = b.length - s.at_ from List.length_drop)
    have hl6 : (b.drop s.at_).length ≤ 1000000000 := by rw [List.length_drop]; omega
    have hcall : ∀ (x : Int × Int × Int), Leb.sF (b.drop s.at_) 33 = x → ∀ q : Nat, Calls Try.prog 100 #[.slice A1 (b.length - s.at_) (c - s.at_), .int .i64 33] (W.drewN q) fun e w' => e = .returned (.tuple #[.int .i64 x.1, .int .i64 x.2.1, .int .i64 x.2.2]) ∧ ∃ m, w' = W.drewN m := by
      intro x hx q
      refine (s_len (w := W.drewN q) A1 _ _ 33 _ HL.out (hr.drewN q) hl6).mono ?_
      rintro e w1 ⟨rfl, rfl⟩
      exact ⟨by rw [hx], q, rfl⟩
    have HU := Lib.hid (hcall _ hu)
    clear hu hcall
  · have hF : s.fail er = ⟨s.at_, er⟩ := by unfold Oct.St.fail; rw [if_pos h0]
    have HF : Hid (∀ w1 : World, RdrAt w1 B (.pointer (some ⟨g, 0, none⟩)) (.slice A b.length c) b s → Calls Try.prog 46 #[.pointer (some ⟨g, 0, none⟩), .int .i64 er] w1 fun e w' => e = .returned (.tuple #[]) ∧ RStep w1 B (.pointer (some ⟨g, 0, none⟩)) (.slice A b.length c) b ⟨s.at_, er⟩ w') := by
      intro w1 hw; rw [← hF]; exact fail_any hw er
    have hne'' : (er != 0) = true := by simpa using hne
    clear hF h0
    go_enter Try.func86, Try.ntmps86
    go_wp2_with (go_at_call 81; refine HS.out.mono ?_; rintro e w1 ⟨rfl, rfl⟩)
    go_quiet ((go_at_call 100; exact HU.out _))
    go_wp2_with (go_at_call 46; refine (HF.out _ (h.below (below_drewN_ (Below.refl _ _) _))).mono ?_; rintro e w1 ⟨rfl, hst⟩)
    go_ret
    exact ⟨rfl, (RStep.below h (below_drewN_ (Below.refl _ _) _)).trans hst⟩
  · have hk' : s.at_ + k ≤ b.length := by omega
    have hd : ∀ q, (W.drewN q).cell? ⟨g, 2, none⟩ = some (.int .i64 (s.at_ : Int)) := fun q => hc2
    have hfd : ∀ q, (W.drewN q).frozen? ⟨g, 2, none⟩ = false := fun q => hf
    have HE0 := Lib.hid h0
    clear h0
    go_enter Try.func86, Try.ntmps86
    go_wp2_with (go_at_call 81; refine HS.out.mono ?_; rintro e w1 ⟨rfl, rfl⟩)
    go_quiet ((go_at_call 100; exact HU.out _))
    go_wp2
    go_ret
    refine ⟨rfl, (RStep.below h (below_drewN_ (Below.refl _ _) nq)).trans ((hi.keep (W' := W.drewN nq) rfl (fun _ _ => rfl)).set (s' := ⟨s.at_ + k, 0⟩) ?_ ((Below.refl _ _).setCell hi.lo _) (fun j _ hj => Below.heap_setCell _ _ _ _ hj) hk')⟩
    rw [Go.heap_setCell_same (W.drewN nq) g 2 _ _ _ hi.blk]
    simp only [HE0.out]
    rfl

theorem wrap_i64_of (n : Int) (h0 : -9223372036854775808 ≤ n) (h1 : n ≤ 9223372036854775807) : IntKind.i64.wrap n = n := by rw [IntKind.wrap_i64]; omega
theorem u32_lo (b : List UInt8) (s : Oct.St) : 0 ≤ (Oct.u32 b s).2 ∧ (Oct.u32 b s).2 < 4294967296 := by
  rcases Oct.u32_ways b s with ⟨h0, h3⟩ | ⟨h0, er, hne, hu, h3⟩ | ⟨h0, n, k, hn, hk, hu, h3⟩ <;> rw [h3]
  · exact ⟨by dsimp only; omega, by dsimp only; omega⟩
  · exact ⟨by dsimp only; omega, by dsimp only; omega⟩
  · exact ⟨by dsimp only; omega, by dsimp only; omega⟩
theorem rdU32_any {W : World} {B : Nat} {p v : Value} {b : List UInt8} {s : Oct.St} (h : RdrAt W B p v b s) :
    Calls Try.prog 69 #[p] W fun e w' => e = .returned (.int .i64 (Oct.u32 b s).2) ∧ RStep W B p v b (Oct.u32 b s).1 w' := by
  have HC := Lib.hid (unsigned_any h)
  have hn := u32_lo b s
  generalize (Oct.u32 b s).2 = n at HC hn ⊢
  obtain ⟨n0, n1⟩ := hn
  have hw := wrap_i64_of n (by omega) (by omega)
  go_enter Try.func69, Try.ntmps69
  go_wp2_with (go_at_call 95; refine HC.out.mono ?_; rintro e w1 ⟨rfl, hst⟩)
  go_ret
  exact ⟨rfl, hst⟩
theorem rdS33_any {W : World} {B : Nat} {p v : Value} {b : List UInt8} {s : Oct.St} (h : RdrAt W B p v b s) :
    Calls Try.prog 52 #[p] W fun e w' => e = .returned (.int .i64 (Oct.sig b s 33).2) ∧ RStep W B p v b (Oct.sig b s 33).1 w' := by
  have HC := Lib.hid (signed_any h)
  go_enter Try.func52, Try.ntmps52
  go_wp2_with (go_at_call 86; refine HC.out.mono ?_; rintro e w1 ⟨rfl, hst⟩)
  go_ret
  exact ⟨rfl, hst⟩

end Go.Proofs.Ytagcildoebicnaa
