/-
  Plain law: what is read without an error can be written; a failed read returns the zero value.
-/
import Derived.Test.YtagcildoebicnaaBtFailP
set_option linter.unusedVariables false
set_option linter.unusedSimpArgs false
namespace Go.Proofs.Ytagcildoebicnaa
open Go.RowKit
namespace Oct
theorem ofByte_val (x : Int) (h : (Ty.ofByte x).2 = true) : Ty.val (Ty.ofByte x).1 = true := by
  unfold Ty.ofByte at h ⊢
  split at h
  · rename_i h1; rw [if_pos h1]; rfl
  · rename_i h1
    split at h
    · rename_i h2; rw [if_neg h1, if_pos h2]; rfl
    · rename_i h2
      split at h
      · rename_i h3; rw [if_neg h1, if_neg h2, if_pos h3]; rfl
      · rename_i h3
        split at h
        · rename_i h4; rw [if_neg h1, if_neg h2, if_neg h3, if_pos h4]; rfl
        · cases h
theorem fail_err_ne {s : St} {e : Int} (he : ¬ e = 0) : ¬ (s.fail e).err = 0 := by
  unfold St.fail; split
  · exact he
  · assumption
theorem byte_ok {b : List UInt8} {s : St} (h : (byte b s).1.err = 0) : s.err = 0 := by
  by_cases h0 : s.err = 0
  · exact h0
  · rw [byte_no h0] at h; exact h
theorem u32_ok0 {b : List UInt8} {s : St} (h : (u32 b s).1.err = 0) : s.err = 0 := by
  by_cases h0 : s.err = 0
  · exact h0
  · rw [u32_no h0] at h; exact h
theorem count_ok {b : List UInt8} {s : St} {m : Int} (h : (count b s m).1.err = 0) : s.err = 0 := by
  by_cases h0 : s.err = 0
  · exact h0
  · rw [count_no h0] at h; exact h
theorem must_ok {s : St} {ok : Bool} {e : Int} (he : ¬ e = 0) (h : (must s ok e).err = 0) : s.err = 0 ∧ ok = true ∧ must s ok e = s := by
  unfold must at h ⊢
  by_cases hh : s.err = 0 ∧ ok = false
  · rw [if_pos hh] at h; exact absurd h (fail_err_ne he)
  · rw [if_neg hh] at h ⊢
    refine ⟨h, ?_, rfl⟩
    rcases ok with _ | _
    · exact absurd ⟨h, rfl⟩ hh
    · rfl
theorem getVal_ok {b : List UInt8} {s : St} (h : (getVal b s).1.err = 0) : s.err = 0 ∧ Ty.val (getVal b s).2 = true := by
  unfold getVal at h ⊢
  split at h
  · rename_i h1
    split at h
    · rename_i h2
      rw [if_pos h1, if_pos h2]
      exact ⟨byte_ok h1, ofByte_val _ h2⟩
    · exact absurd h (fail_err_ne (by decide))
  · rename_i h1; exact absurd h h1
theorem getN_ok {b : List UInt8} : ∀ (n : Nat) {s : St}, (getN b n s).1.err = 0 → s.err = 0 ∧ (getN b n s).2.all Ty.val = true
  | 0, s, h => ⟨h, rfl⟩
  | n + 1, s, h => by
    obtain ⟨h1, h2⟩ := getN_ok n (s := (getVal b s).1) h
    obtain ⟨h3, h4⟩ := getVal_ok h1
    refine ⟨h3, ?_⟩
    show ((getVal b s).2 :: (getN b n (getVal b s).1).2).all Ty.val = true
    rw [List.all_cons, h4, h2]; rfl
theorem getVals_ok {b : List UInt8} {s : St} (h : (getVals b s).1.err = 0) : s.err = 0 ∧ Ty.right (getVals b s).2 = true := by
  have hl := getVals_len b s
  unfold getVals at h hl ⊢
  obtain ⟨h1, h2⟩ := getN_ok _ h
  refine ⟨count_ok h1, ?_⟩
  unfold Ty.right
  rw [h2, decide_eq_true hl]; rfl
theorem getFunc_ok {b : List UInt8} {s : St} (h : (getFunc b s).1.err = 0) : (Ty.right (getFunc b s).2.1 && Ty.right (getFunc b s).2.2) = true := by
  unfold getFunc at h ⊢
  dsimp only at h ⊢
  split at h
  · rename_i h1
    rw [if_pos h1]
    obtain ⟨h2, h3⟩ := getVals_ok h1
    obtain ⟨h4, h5⟩ := getVals_ok h2
    dsimp only
    rw [h3, h5]; rfl
  · rename_i h1; exact absurd h h1
theorem getFunc_bad {b : List UInt8} {s : St} (h : ¬ (getFunc b s).1.err = 0) : (getFunc b s).2 = ([], []) := by
  unfold getFunc at h ⊢
  dsimp only at h ⊢
  split at h
  · rename_i h1; exact absurd h1 h
  · rename_i h1; rw [if_neg h1]
theorem nb_u32 (b : List UInt8) (s : St) : nb (u32 b s).2 = true := by
  have := u32_lo b s
  unfold nb
  rw [decide_eq_true this.1, decide_eq_true (show (u32 b s).2 ≤ 4294967295 by omega)]; rfl
theorem getLim_ok {b : List UInt8} {s : St} (h : (getLim b s).1.err = 0) : s.err = 0 ∧ limOk (getLim b s).2 = true := by
  unfold getLim at h ⊢
  dsimp only at h ⊢
  split at h
  · rename_i hx
    rw [if_pos hx]
    split at h
    · rename_i h1
      rw [if_pos h1]
      obtain ⟨h2, h3, h4⟩ := must_ok (by decide) h1
      obtain ⟨h5, h6, h7⟩ := must_ok (by decide) (u32_ok0 (u32_ok0 h2))
      refine ⟨byte_ok h5, ?_⟩
      rw [limOk_yes, nb_u32, nb_u32, h3]; rfl
    · rename_i h1; exact absurd h h1
  · rename_i hx
    rw [if_neg hx]
    split at h
    · rename_i h1
      rw [if_pos h1]
      obtain ⟨h5, h6, h7⟩ := must_ok (by decide) (u32_ok0 h1)
      refine ⟨byte_ok h5, ?_⟩
      rw [limOk_no, nb_u32]; rfl
    · rename_i h1; exact absurd h h1
theorem bytes_err {s : Wt} (h : s.err = 0) (l : List UInt8) : (s.bytes l).err = 0 := by unfold Wt.bytes; rw [if_pos h]
theorem putU32_err {s : Wt} (h : s.err = 0) {n : Int} (hn : nb n = true) : (putU32 s n).err = 0 := by
  unfold nb at hn
  simp at hn
  unfold putU32
  rw [if_neg (by omega)]
  exact bytes_err h _
theorem putVal_err {s : Wt} (h : s.err = 0) {t : Int} (ht : Ty.val t = true) : (putVal s t).err = 0 := by
  unfold putVal; rw [if_pos ht]; exact bytes_err h _
theorem putLim_err {s : Wt} (h : s.err = 0) {l : Lim} (hl : limOk l = true) : (putLim s l).err = 0 := by
  unfold putLim
  rw [if_pos hl]
  obtain ⟨mn, mx, has⟩ := l
  rcases has with _ | _
  · rw [limOk_no] at hl
    simp at hl
    rw [if_neg (show ¬ (false = true) by decide)]
    exact putU32_err (bytes_err h _) hl.1
  · rw [limOk_yes] at hl
    simp at hl
    rw [if_pos rfl]
    exact putU32_err (putU32_err (bytes_err h _) hl.1.1) hl.1.2
theorem ref_val {t : Int} (h : Ty.ref t = true) : Ty.val t = true := by unfold Ty.val; rw [h]; simp
theorem putTable_err {s : Wt} (h : s.err = 0) {el : Int} {l : Lim} (he : Ty.ref el = true) (hl : limOk l = true) : (putTable s el l).err = 0 := by
  unfold putTable
  rw [if_pos he, if_pos hl]
  exact putLim_err (putVal_err h (ref_val he)) hl
theorem getTable_ok {b : List UInt8} {s : St} (h : (getTable b s).1.err = 0) : Ty.ref (getTable b s).2.1 = true ∧ limOk (getTable b s).2.2 = true := by
  unfold getTable at h ⊢
  dsimp only at h ⊢
  split at h
  · rename_i h1
    rw [if_pos h1]
    obtain ⟨h2, h3⟩ := getLim_ok h1
    obtain ⟨_, h5, _⟩ := must_ok (by decide) h2
    exact ⟨h5, h3⟩
  · rename_i h1; exact absurd h h1
theorem getTable_bad {b : List UInt8} {s : St} (h : ¬ (getTable b s).1.err = 0) : (getTable b s).2 = (0, ⟨0, 0, false⟩) := by
  unfold getTable at h ⊢
  dsimp only at h ⊢
  split at h
  · rename_i h1; exact absurd h1 h
  · rename_i h1; rw [if_neg h1]
theorem s33_rng (b : List UInt8) (s : St) : (sig b s 33).2 ≤ 4294967295 := by
  rcases s33_ways b s with ⟨_, h3⟩ | ⟨_, er, _, _, h3⟩ | ⟨_, n, k, _, hn2, _, _, h3⟩ <;> rw [h3]
  · dsimp only; omega
  · dsimp only; omega
  · dsimp only; omega
theorem putBlock_err {x : Blk} (h : blkOk x = true) : (putBlock ⟨[], 0⟩ x).err = 0 := by
  have hk : x.kind = 0 ∨ (x.kind = 1 ∧ Ty.val x.val = true) ∨ (x.kind = 2 ∧ 0 ≤ x.idx ∧ x.idx ≤ 4294967295) := by
    unfold blkOk at h
    simp at h
    rcases h with (h | h) | h
    · exact .inl h.1.1
    · exact .inr (.inl ⟨h.1.1, h.2⟩)
    · exact .inr (.inr ⟨h.1.1.1, h.1.2, h.2⟩)
  unfold putBlock
  rw [if_pos h]
  rcases hk with hk | ⟨hk, hv⟩ | ⟨hk, h1, h2⟩
  · rw [if_pos hk]; rfl
  · rw [if_neg (by omega), if_pos hk]; exact putVal_err rfl hv
  · rw [if_neg (by omega), if_neg (by omega)]
    unfold putS33
    rw [if_neg (by omega)]
    rfl
theorem getBlock_ok (b : List UInt8) (s : St) : blkOk (getBlock b s).2 = true ∧ ((getBlock b s).1.err = 0 ∨ (getBlock b s).2 = ⟨0, 0, 0⟩) := by
  have hr := s33_rng b s
  unfold getBlock
  dsimp only
  split
  · rename_i h0
    split
    · exact ⟨rfl, .inr rfl⟩
    · split
      · rename_i hp
        refine ⟨?_, .inl h0⟩
        unfold blkOk
        dsimp only
        rw [decide_eq_true hp, decide_eq_true hr]; rfl
      · split
        · rename_i hh
          refine ⟨?_, .inl h0⟩
          unfold blkOk
          dsimp only
          rw [ofByte_val _ hh.2]; rfl
        · exact ⟨rfl, .inr rfl⟩
  · exact ⟨rfl, .inr rfl⟩
end Oct
end Go.Proofs.Ytagcildoebicnaa
