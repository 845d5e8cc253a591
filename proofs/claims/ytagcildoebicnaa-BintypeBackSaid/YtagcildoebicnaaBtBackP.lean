/-
  Plain law: what is written without an error is read back whole.
-/
import Derived.Test.YtagcildoebicnaaBtRightP
set_option linter.unusedVariables false
set_option linter.unusedSimpArgs false
namespace Go.Proofs.Ytagcildoebicnaa
open Go.RowKit
namespace Oct
/-- The bytes e lie at n. -/
def Lies (b : List UInt8) (n : Nat) (e : List UInt8) : Prop := ∃ rest, b.drop n = e ++ rest
theorem Lies.left {b e1 e2 : List UInt8} {n : Nat} (h : Lies b n (e1 ++ e2)) : Lies b n e1 := by
  obtain ⟨r, h⟩ := h
  exact ⟨e2 ++ r, by rw [h, List.append_assoc]⟩
theorem Lies.right {b e1 e2 : List UInt8} {n : Nat} (h : Lies b n (e1 ++ e2)) : Lies b (n + e1.length) e2 := by
  obtain ⟨r, h⟩ := h
  refine ⟨r, ?_⟩
  rw [← List.drop_drop, h, List.append_assoc, List.drop_left]
theorem byte_back {b : List UInt8} {n : Nat} {x : UInt8} (h : Lies b n [x]) : byte b ⟨n, 0⟩ = (⟨n + 1, 0⟩, (x.toNat : Int)) := by
  obtain ⟨r, h⟩ := h
  have hl : n < b.length := by
    rcases Nat.lt_or_ge n b.length with h1 | h1
    · exact h1
    · rw [List.drop_eq_nil_of_le h1] at h; simp at h
  rw [List.drop_eq_getElem_cons hl] at h
  injection h with h1 h2
  unfold byte
  dsimp only
  rw [if_pos rfl, if_pos hl]
  have : b.getD n 0 = x := by rw [List.getD_eq_getElem?_getD, List.getElem?_eq_getElem hl, h1]; rfl
  rw [this]
theorem u32_back {b : List UInt8} {n m : Nat} (hm : m < 2 ^ 32) (h : Lies b n (Leb.putU m)) : u32 b ⟨n, 0⟩ = (⟨n + (Leb.putU m).length, 0⟩, (m : Int)) := by
  obtain ⟨r, h⟩ := h
  have e := Leb.back_u m (by omega) 32 (by omega) (by omega) r
  rw [if_pos hm, ← h] at e
  unfold u32 uns
  dsimp only
  rw [if_pos rfl]
  rw [show Leb.uF (b.drop n) 32 = ((m : Int), ((Leb.putU m).length : Int), 0) from e]
  rfl
theorem s33_back {b : List UInt8} {n : Nat} {m : Int} (h1 : -64 ≤ m) (h2 : m ≤ 4294967295) (h : Lies b n (Leb.putS m)) : sig b ⟨n, 0⟩ 33 = (⟨n + (Leb.putS m).length, 0⟩, m) := by
  obtain ⟨r, h⟩ := h
  have e := Leb.back_s m 33 (by omega) (by omega) r ⟨by simp; omega, by simp; omega⟩
  rw [← h] at e
  unfold sig
  dsimp only
  rw [if_pos rfl]
  rw [show Leb.sF (b.drop n) 33 = (m, ((Leb.putS m).length : Int), 0) from e]
  rfl
theorem val_ways {t : Int} (h : Ty.val t = true) : t = 1 ∨ t = 2 ∨ t = 3 ∨ t = 4 := by
  unfold Ty.val Ty.num Ty.ref at h
  simp at h
  omega
theorem getVal_back {b : List UInt8} {n : Nat} {t : Int} (ht : Ty.val t = true) (h : Lies b n [b8 (Ty.byte t)]) : getVal b ⟨n, 0⟩ = (⟨n + 1, 0⟩, t) := by
  unfold getVal
  rw [byte_back h]
  rcases val_ways ht with rfl | rfl | rfl | rfl <;> rfl
/-- What a write that answers has done. -/
def Way (s s' : Wt) (R : List UInt8 → Nat → Nat → Prop) : Prop :=
  (∃ E, s' = ⟨s.b ++ E, 0⟩ ∧ ∀ b n, Lies b n E → R b n (n + E.length)) ∨ (s'.err = 6 ∨ s'.err = 12 ∨ s'.err = 20)
theorem bytes_eq {s : Wt} (h : s.err = 0) (l : List UInt8) : s.bytes l = ⟨s.b ++ l, 0⟩ := if_pos h
theorem wfail_err {s : Wt} (h : s.err = 0) (e : Int) : (s.fail e).err = e := by unfold Wt.fail; rw [if_pos h]
theorem putU32_eq {s : Wt} (h : s.err = 0) {m : Int} (hm : nb m = true) : putU32 s m = ⟨s.b ++ Leb.putU m.toNat, 0⟩ := by
  unfold nb at hm
  simp at hm
  unfold putU32
  rw [if_neg (by omega), bytes_eq h]
theorem u32_back' {b : List UInt8} {n : Nat} {m : Int} (hm : nb m = true) (h : Lies b n (Leb.putU m.toNat)) : u32 b ⟨n, 0⟩ = (⟨n + (Leb.putU m.toNat).length, 0⟩, m) := by
  unfold nb at hm
  simp at hm
  rw [u32_back (by omega) h, Int.toNat_of_nonneg hm.1]
theorem putVal_eq {s : Wt} (h : s.err = 0) {t : Int} (ht : Ty.val t = true) : putVal s t = ⟨s.b ++ [b8 (Ty.byte t)], 0⟩ := by
  unfold putVal
  rw [if_pos ht, bytes_eq h]
theorem putAll_eq : ∀ (l : List Int) {s : Wt}, s.err = 0 → l.all Ty.val = true → putAll s l = ⟨s.b ++ l.map (fun t => b8 (Ty.byte t)), 0⟩
  | [], s, h, _ => by
    obtain ⟨sb, se⟩ := s
    dsimp only at h
    subst h
    show (⟨sb, 0⟩ : Wt) = ⟨sb ++ [], 0⟩
    rw [List.append_nil]
  | t :: l, s, h, hl => by
    rw [List.all_cons] at hl
    simp only [Bool.and_eq_true] at hl
    show putAll (putVal s t) l = _
    rw [putVal_eq h hl.1, putAll_eq l rfl hl.2]
    simp
theorem getN_back {b : List UInt8} : ∀ (l : List Int) {n : Nat}, l.all Ty.val = true → Lies b n (l.map (fun t => b8 (Ty.byte t))) → getN b l.length ⟨n, 0⟩ = (⟨n + l.length, 0⟩, l)
  | [], n, _, _ => rfl
  | t :: l, n, hl, h => by
    rw [List.all_cons] at hl
    simp only [Bool.and_eq_true] at hl
    have h' : Lies b n ([b8 (Ty.byte t)] ++ l.map (fun t => b8 (Ty.byte t))) := h
    have e := getVal_back hl.1 h'.left
    have e2 := getN_back l hl.2 h'.right
    show ((getN b l.length (getVal b ⟨n, 0⟩).1).1, (getVal b ⟨n, 0⟩).2 :: (getN b l.length (getVal b ⟨n, 0⟩).1).2) = _
    rw [e]
    dsimp only
    rw [show n + 1 = n + [b8 (Ty.byte t)].length from rfl, e2]
    dsimp only
    have hl2 : n + [b8 (Ty.byte t)].length + l.length = n + (t :: l).length := by simp; omega
    rw [hl2]
def valsE (l : List Int) : List UInt8 := Leb.putU l.length ++ l.map (fun t => b8 (Ty.byte t))
theorem putVals_eq {l : List Int} {s : Wt} (h : s.err = 0) (h8 : l.length ≤ 8) (hl : l.all Ty.val = true) : putVals s l = ⟨s.b ++ valsE l, 0⟩ := by
  unfold putVals valsE
  rw [putU32_eq h (by unfold nb; simp; omega), putAll_eq l rfl hl, Int.toNat_natCast, List.append_assoc]
theorem getVals_back {b : List UInt8} {l : List Int} {n : Nat} (h8 : l.length ≤ 8) (hl : l.all Ty.val = true) (h : Lies b n (valsE l)) : getVals b ⟨n, 0⟩ = (⟨n + (valsE l).length, 0⟩, l) := by
  unfold valsE at h
  have e := u32_back (by omega) h.left
  have e2 := getN_back l hl h.right
  unfold getVals count
  rw [e]
  dsimp only
  rw [if_neg (by omega)]
  dsimp only
  rw [Int.toNat_natCast, e2]
  unfold valsE
  rw [List.length_append, List.length_map, Nat.add_assoc]
theorem listErr_ways (l : List Int) : (listErr l = 0 ∧ l.length ≤ 8 ∧ l.all Ty.val = true) ∨ (¬ listErr l = 0 ∧ (listErr l = 6 ∨ listErr l = 12)) := by
  unfold listErr
  split
  · exact .inr ⟨by decide, .inl rfl⟩
  · rename_i h8
    split
    · rename_i hl; exact .inl ⟨rfl, by omega, hl⟩
    · exact .inr ⟨by decide, .inr rfl⟩
theorem func_way {s : Wt} (h : s.err = 0) (ps rs : List Int) : Way s (putFunc s ps rs) fun b n m => getFunc b ⟨n, 0⟩ = (⟨m, 0⟩, ps, rs) := by
  unfold putFunc
  rcases listErr_ways ps with ⟨hp, hp8, hpl⟩ | ⟨hp, hpe⟩
  · rw [if_pos hp]
    rcases listErr_ways rs with ⟨hr, hr8, hrl⟩ | ⟨hr, hre⟩
    · rw [if_pos hr, bytes_eq h, putVals_eq rfl hp8 hpl, putVals_eq rfl hr8 hrl]
      refine .inl ⟨[96] ++ (valsE ps ++ valsE rs), by simp, fun b n hb => ?_⟩
      have e1 := byte_back hb.left
      have e2 := getVals_back hp8 hpl hb.right.left
      have e3 := getVals_back hr8 hrl hb.right.right
      unfold getFunc
      dsimp only
      rw [e1]
      dsimp only
      rw [show must (⟨n + 1, 0⟩ : St) ((((96 : UInt8).toNat : Int)) == 96) 4 = ⟨n + [(96 : UInt8)].length, 0⟩ from rfl, e2]
      dsimp only
      rw [e3]
      dsimp only
      rw [if_pos rfl]
      simp only [List.length_append, Nat.add_assoc]
    · rw [if_neg hr]
      refine .inr ?_
      rw [wfail_err h]
      omega
  · rw [if_neg hp]
    refine .inr ?_
    rw [wfail_err h]
    omega
theorem lim_enc {l : Lim} (hl : limOk l = true) : ∃ E, (∀ s : Wt, s.err = 0 → putLim s l = ⟨s.b ++ E, 0⟩) ∧ ∀ b n, Lies b n E → getLim b ⟨n, 0⟩ = (⟨n + E.length, 0⟩, l) := by
  obtain ⟨mn, mx, has⟩ := l
  rcases has with _ | _
  · have hl' := hl
    rw [limOk_no] at hl'
    simp only [Bool.and_eq_true, beq_iff_eq] at hl'
    obtain ⟨h1, rfl⟩ := hl'
    refine ⟨[0] ++ Leb.putU mn.toNat, fun s h => ?_, fun b n hb => ?_⟩
    · unfold putLim
      rw [if_pos hl, if_neg (show ¬ (false = true) by decide), bytes_eq h, putU32_eq rfl h1, List.append_assoc]
    · have e1 := byte_back hb.left
      have e2 := u32_back' h1 hb.right
      unfold getLim
      dsimp only
      rw [e1]
      dsimp only
      rw [show must (⟨n + 1, 0⟩ : St) (decide ((((0 : UInt8).toNat : Int)) ≤ 1)) 4 = ⟨n + [(0 : UInt8)].length, 0⟩ from rfl, e2]
      dsimp only
      rw [if_neg (by decide), if_pos rfl]
      simp only [List.length_append, Nat.add_assoc]
  · have hl' := hl
    rw [limOk_yes] at hl'
    simp only [Bool.and_eq_true, decide_eq_true_eq] at hl'
    obtain ⟨⟨h1, h2⟩, h3⟩ := hl'
    refine ⟨[1] ++ (Leb.putU mn.toNat ++ Leb.putU mx.toNat), fun s h => ?_, fun b n hb => ?_⟩
    · unfold putLim
      rw [if_pos hl, if_pos rfl, bytes_eq h, putU32_eq rfl h1, putU32_eq rfl h2, List.append_assoc, List.append_assoc]
    · have e1 := byte_back hb.left
      have e2 := u32_back' h1 hb.right.left
      have e3 := u32_back' h2 hb.right.right
      unfold getLim
      dsimp only
      rw [e1]
      dsimp only
      rw [show must (⟨n + 1, 0⟩ : St) (decide ((((1 : UInt8).toNat : Int)) ≤ 1)) 4 = ⟨n + [(1 : UInt8)].length, 0⟩ from rfl, e2]
      dsimp only
      rw [e3]
      dsimp only
      rw [decide_eq_true h3, if_pos (by decide), show ∀ s : St, must s true 20 = s from fun s => if_neg (fun hh => by cases hh.2)]
      dsimp only
      rw [if_pos rfl]
      simp only [List.length_append, Nat.add_assoc]
theorem lim_way {s : Wt} (h : s.err = 0) (l : Lim) : Way s (putLim s l) fun b n m => getLim b ⟨n, 0⟩ = (⟨m, 0⟩, l) := by
  rcases hl : limOk l with _ | _
  · refine .inr ?_
    unfold putLim
    rw [if_neg (by rw [hl]; decide), wfail_err h]
    omega
  · obtain ⟨E, h1, h2⟩ := lim_enc hl
    exact .inl ⟨E, h1 s h, h2⟩
theorem table_way {s : Wt} (h : s.err = 0) (el : Int) (l : Lim) : Way s (putTable s el l) fun b n m => getTable b ⟨n, 0⟩ = (⟨m, 0⟩, el, l) := by
  unfold putTable
  rcases hr : Ty.ref el with _ | _
  · refine .inr ?_
    rw [if_neg (by decide), wfail_err h]
    omega
  rw [if_pos rfl]
  rcases hl : limOk l with _ | _
  · refine .inr ?_
    rw [if_neg (by decide), wfail_err h]
    omega
  rw [if_pos rfl, putVal_eq h (ref_val hr)]
  obtain ⟨E, h1, h2⟩ := lim_enc hl
  rw [h1 _ rfl]
  refine .inl ⟨[b8 (Ty.byte el)] ++ E, by simp, fun b n hb => ?_⟩
  have e1 := getVal_back (ref_val hr) hb.left
  have e2 := h2 _ _ hb.right
  unfold getTable
  dsimp only
  rw [e1]
  dsimp only
  rw [hr, show must (⟨n + 1, 0⟩ : St) true 12 = ⟨n + [b8 (Ty.byte el)].length, 0⟩ from rfl, e2]
  dsimp only
  rw [if_pos rfl]
  simp only [List.length_append, Nat.add_assoc]
theorem global_way {s : Wt} (h : s.err = 0) (t : Int) (mu : Bool) : Way s (putGlobal s t mu) fun b n m => getGlobal b ⟨n, 0⟩ = (⟨m, 0⟩, t, mu) := by
  unfold putGlobal
  rcases hr : Ty.val t with _ | _
  · refine .inr ?_
    rw [if_neg (by decide), wfail_err h]
    omega
  rw [if_pos rfl, putVal_eq h hr, bytes_eq rfl]
  refine .inl ⟨[b8 (Ty.byte t)] ++ [if mu then 1 else 0], by simp, fun b n hb => ?_⟩
  have e1 := getVal_back hr hb.left
  have e2 := byte_back hb.right
  unfold getGlobal
  dsimp only
  rw [e1]
  dsimp only
  rw [show (⟨n + 1, 0⟩ : St) = ⟨n + [b8 (Ty.byte t)].length, 0⟩ from rfl, e2]
  rcases mu with _ | _ <;> rfl
theorem putS_one {m : Int} (h : -64 ≤ m ∧ m ≤ 63) : Leb.putS m = [UInt8.ofNat (m % 128).toNat] := Leb.putS_small h
theorem block_way {s : Wt} (h : s.err = 0) (x : Blk) : Way s (putBlock s x) fun b n m => getBlock b ⟨n, 0⟩ = (⟨m, 0⟩, x) := by
  unfold putBlock
  rcases hk : blkOk x with _ | _
  · refine .inr ?_
    rw [if_neg (by decide), wfail_err h]
    omega
  rw [if_pos rfl]
  obtain ⟨k, v, i⟩ := x
  unfold blkOk at hk
  dsimp only at hk ⊢
  simp only [Bool.or_eq_true, Bool.and_eq_true, beq_iff_eq, decide_eq_true_eq] at hk
  rcases hk with (⟨⟨rfl, rfl⟩, rfl⟩ | ⟨⟨rfl, rfl⟩, hv⟩) | ⟨⟨⟨rfl, rfl⟩, h1⟩, h2⟩
  · rw [if_pos rfl, bytes_eq h]
    refine .inl ⟨[64], rfl, fun b n hb => ?_⟩
    have e := s33_back (b := b) (n := n) (m := -64) (by decide) (by decide) (by rw [putS_one (by decide)]; exact hb)
    unfold getBlock
    dsimp only
    rw [e, putS_one (by decide)]
    rfl
  · rw [if_neg (by decide), if_pos rfl, putVal_eq h hv]
    refine .inl ⟨[b8 (Ty.byte v)], rfl, fun b n hb => ?_⟩
    have e := s33_back (b := b) (n := n) (m := Ty.byte v - 128) (by rcases val_ways hv with rfl | rfl | rfl | rfl <;> decide) (by rcases val_ways hv with rfl | rfl | rfl | rfl <;> decide) (by
      rcases val_ways hv with rfl | rfl | rfl | rfl <;> (rw [putS_one (by decide)]; exact hb))
    unfold getBlock
    dsimp only
    rw [e]
    rcases val_ways hv with rfl | rfl | rfl | rfl <;> (rw [putS_one (by decide)]; rfl)
  · rw [if_neg (by decide), if_neg (by decide)]
    unfold putS33
    rw [if_neg (by omega), bytes_eq h]
    refine .inl ⟨Leb.putS i, rfl, fun b n hb => ?_⟩
    have e := s33_back (by omega) (by omega) hb
    unfold getBlock
    dsimp only
    rw [e]
    dsimp only
    rw [if_pos rfl, if_neg (by omega), if_pos (by omega)]
def allPut (ps rs : List Int) (l : Lim) (el : Int) (tl : Lim) (g : Int) (mu : Bool) (x : Blk) : Wt := putBlock (putGlobal (putTable (putLim (putFunc ⟨[], 0⟩ ps rs) l) el tl) g mu) x
theorem all_back (ps rs : List Int) (l : Lim) (el : Int) (tl : Lim) (g : Int) (mu : Bool) (x : Blk) :
    ((allPut ps rs l el tl g mu x).err = 6 ∨ (allPut ps rs l el tl g mu x).err = 12 ∨ (allPut ps rs l el tl g mu x).err = 20) ∨
    ((allPut ps rs l el tl g mu x).err = 0 ∧ ∃ n1 n2 n3 n4 : Nat,
      getFunc (allPut ps rs l el tl g mu x).b ⟨0, 0⟩ = (⟨n1, 0⟩, ps, rs) ∧ getLim (allPut ps rs l el tl g mu x).b ⟨n1, 0⟩ = (⟨n2, 0⟩, l) ∧ getTable (allPut ps rs l el tl g mu x).b ⟨n2, 0⟩ = (⟨n3, 0⟩, el, tl) ∧
      getGlobal (allPut ps rs l el tl g mu x).b ⟨n3, 0⟩ = (⟨n4, 0⟩, g, mu) ∧ getBlock (allPut ps rs l el tl g mu x).b ⟨n4, 0⟩ = (⟨(allPut ps rs l el tl g mu x).b.length, 0⟩, x)) := by
  unfold allPut
  have no (s : Wt) (h : s.err = 6 ∨ s.err = 12 ∨ s.err = 20) : ¬ s.err = 0 := by omega
  rcases func_way (s := ⟨[], 0⟩) rfl ps rs with ⟨E1, e1, r1⟩ | hb
  rotate_left
  · left; rw [putLim_no (no _ hb), putTable_no (no _ hb), putGlobal_no (no _ hb), putBlock_no (no _ hb)]; exact hb
  rw [e1]
  rcases lim_way (s := ⟨[] ++ E1, 0⟩) rfl l with ⟨E2, e2, r2⟩ | hb
  rotate_left
  · left; rw [putTable_no (no _ hb), putGlobal_no (no _ hb), putBlock_no (no _ hb)]; exact hb
  dsimp only at e2
  rw [e2]
  rcases table_way (s := ⟨[] ++ E1 ++ E2, 0⟩) rfl el tl with ⟨E3, e3, r3⟩ | hb
  rotate_left
  · left; rw [putGlobal_no (no _ hb), putBlock_no (no _ hb)]; exact hb
  dsimp only at e3
  rw [e3]
  rcases global_way (s := ⟨[] ++ E1 ++ E2 ++ E3, 0⟩) rfl g mu with ⟨E4, e4, r4⟩ | hb
  rotate_left
  · left; rw [putBlock_no (no _ hb)]; exact hb
  dsimp only at e4
  rw [e4]
  rcases block_way (s := ⟨[] ++ E1 ++ E2 ++ E3 ++ E4, 0⟩) rfl x with ⟨E5, e5, r5⟩ | hb
  rotate_left
  · left; exact hb
  dsimp only at e5
  rw [e5]
  right
  refine ⟨rfl, _, _, _, _, r1 _ _ ?_, r2 _ _ ?_, r3 _ _ ?_, r4 _ _ ?_, ?_⟩
  · exact ⟨E2 ++ (E3 ++ (E4 ++ E5)), by simp⟩
  · exact Lies.right (e1 := E1) ⟨E3 ++ (E4 ++ E5), by simp⟩
  · exact Lies.right (e1 := E2) (Lies.right (e1 := E1) ⟨E4 ++ E5, by simp⟩)
  · exact Lies.right (e1 := E3) (Lies.right (e1 := E2) (Lies.right (e1 := E1) ⟨E5, by simp⟩))
  · have := r5 ([] ++ E1 ++ E2 ++ E3 ++ E4 ++ E5) _ (Lies.right (e1 := E4) (Lies.right (e1 := E3) (Lies.right (e1 := E2) (Lies.right (e1 := E1) (n := 0) ⟨[], by simp⟩))))
    rw [this]
    simp [Nat.add_assoc]
end Oct
end Go.Proofs.Ytagcildoebicnaa
