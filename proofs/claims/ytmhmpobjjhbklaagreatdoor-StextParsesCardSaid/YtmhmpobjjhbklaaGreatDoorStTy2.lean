/-
  Value types: Find; the reference's names and texts. (Put together by gen_stty.py.)
-/
import Derived.Test.YtmhmpobjjhbklaaGreatDoorStTy
import Derived.LoopN
import Derived.Deep.RegionHeld3
set_option linter.unusedVariables false
namespace Go.Proofs.YtmhmpobjjhbklaaGreatDoor
open Go.RowKit

namespace Ty
def find (nm : List UInt8) : Int × Bool := if name 1 = nm then (1, true) else if name 2 = nm then (2, true) else if name 3 = nm then (3, true) else if name 4 = nm then (4, true) else (0, false)
/-- The five ways through the search. -/
theorem ways {p1 p2 p3 p4 : Prop} [Decidable p1] [Decidable p2] [Decidable p3] [Decidable p4] {α : Type} (a b c d e : α) :
    (p1 ∧ (if p1 then a else if p2 then b else if p3 then c else if p4 then d else e) = a) ∨ (¬ p1 ∧ p2 ∧ (if p1 then a else if p2 then b else if p3 then c else if p4 then d else e) = b) ∨
    (¬ p1 ∧ ¬ p2 ∧ p3 ∧ (if p1 then a else if p2 then b else if p3 then c else if p4 then d else e) = c) ∨ (¬ p1 ∧ ¬ p2 ∧ ¬ p3 ∧ p4 ∧ (if p1 then a else if p2 then b else if p3 then c else if p4 then d else e) = d) ∨
    (¬ p1 ∧ ¬ p2 ∧ ¬ p3 ∧ ¬ p4 ∧ (if p1 then a else if p2 then b else if p3 then c else if p4 then d else e) = e) := by
  by_cases h1 : p1
  · exact .inl ⟨h1, if_pos h1⟩
  by_cases h2 : p2
  · exact .inr (.inl ⟨h1, h2, by rw [if_neg h1, if_pos h2]⟩)
  by_cases h3 : p3
  · exact .inr (.inr (.inl ⟨h1, h2, h3, by rw [if_neg h1, if_neg h2, if_pos h3]⟩))
  by_cases h4 : p4
  · exact .inr (.inr (.inr (.inl ⟨h1, h2, h3, h4, by rw [if_neg h1, if_neg h2, if_neg h3, if_pos h4]⟩)))
  exact .inr (.inr (.inr (.inr ⟨h1, h2, h3, h4, by rw [if_neg h1, if_neg h2, if_neg h3, if_neg h4]⟩)))
end Ty
set_option maxHeartbeats 1000000 in
set_option maxRecDepth 100000 in
theorem find_any (nm : List UInt8) (w : World) : Calls Tryz.prog 93 #[.string ⟨nm.toArray⟩] w fun e w' => e = .returned (.tuple #[.int .i64 (Ty.find nm).1, .bool (Ty.find nm).2]) ∧ w = w' := by
  rcases Ty.ways (p1 := Ty.name 1 = nm) (p2 := Ty.name 2 = nm) (p3 := Ty.name 3 = nm) (p4 := Ty.name 4 = nm) ((1, true) : Int × Bool) (2, true) (3, true) (4, true) (0, false) with ⟨a1, hv⟩ | ⟨a1, a2, hv⟩ | ⟨a1, a2, a3, hv⟩ | ⟨a1, a2, a3, a4, hv⟩ | ⟨a1, a2, a3, a4, hv⟩
  all_goals have HV := Lib.hid (show Ty.find nm = _ from hv)
  all_goals clear hv
  case inl =>
    have g1 : (Ty.name 1 == nm) = true := by simpa using a1
    clear a1
    go_enter Tryz.func93, Tryz.ntmps93
    go_wp2_with fail
    refine wp_loop_rounds 1 ?_
    rw [rounds_succ]
    go_wp2_with (go_at_call 49; refine (name_any _ _).mono ?_; rintro e w1 ⟨rfl, rfl⟩)
    go_ret2
    exact ⟨by rw [HV.out]; rfl, rfl⟩
  case inr.inl =>
    have g1 : (Ty.name 1 == nm) = false := by simpa using a1
    have g2 : (Ty.name 2 == nm) = true := by simpa using a2
    clear a1 a2
    go_enter Tryz.func93, Tryz.ntmps93
    go_wp2_with fail
    refine wp_loop_rounds 2 ?_
    iterate 2 (rw [rounds_succ]; go_wp2_with (go_at_call 49; refine (name_any _ _).mono ?_; rintro e w1 ⟨rfl, rfl⟩))
    go_ret2
    exact ⟨by rw [HV.out]; rfl, rfl⟩
  case inr.inr.inl =>
    have g1 : (Ty.name 1 == nm) = false := by simpa using a1
    have g2 : (Ty.name 2 == nm) = false := by simpa using a2
    have g3 : (Ty.name 3 == nm) = true := by simpa using a3
    clear a1 a2 a3
    go_enter Tryz.func93, Tryz.ntmps93
    go_wp2_with fail
    refine wp_loop_rounds 3 ?_
    iterate 3 (rw [rounds_succ]; go_wp2_with (go_at_call 49; refine (name_any _ _).mono ?_; rintro e w1 ⟨rfl, rfl⟩))
    go_ret2
    exact ⟨by rw [HV.out]; rfl, rfl⟩
  case inr.inr.inr.inl =>
    have g1 : (Ty.name 1 == nm) = false := by simpa using a1
    have g2 : (Ty.name 2 == nm) = false := by simpa using a2
    have g3 : (Ty.name 3 == nm) = false := by simpa using a3
    have g4 : (Ty.name 4 == nm) = true := by simpa using a4
    clear a1 a2 a3 a4
    go_enter Tryz.func93, Tryz.ntmps93
    go_wp2_with fail
    refine wp_loop_rounds 4 ?_
    iterate 4 (rw [rounds_succ]; go_wp2_with (go_at_call 49; refine (name_any _ _).mono ?_; rintro e w1 ⟨rfl, rfl⟩))
    go_ret2
    exact ⟨by rw [HV.out]; rfl, rfl⟩
  case inr.inr.inr.inr =>
    have g1 : (Ty.name 1 == nm) = false := by simpa using a1
    have g2 : (Ty.name 2 == nm) = false := by simpa using a2
    have g3 : (Ty.name 3 == nm) = false := by simpa using a3
    have g4 : (Ty.name 4 == nm) = false := by simpa using a4
    clear a1 a2 a3 a4
    go_enter Tryz.func93, Tryz.ntmps93
    go_wp2_with fail
    refine wp_loop_rounds 5 ?_
    iterate 5 (rw [rounds_succ]; go_wp2_with (go_at_call 49; refine (name_any _ _).mono ?_; rintro e w1 ⟨rfl, rfl⟩))
    go_ret2
    exact ⟨by rw [HV.out]; rfl, rfl⟩
theorem refVal_any (t : Int) (w : World) : Calls Tryz.prog 59 #[.int .i64 t] w fun e w' => e = .returned (.bool (Ty.val t)) ∧ w = w' := by
  rcases Ty.five t with rfl | rfl | rfl | rfl | h
  case inr.inr.inr.inr =>
    have HV := Lib.hid (Ty.val_no h)
    simp at h
    by_cases h1 : 1 ≤ t
    · have h2 : 4 < t := by omega
      have g1 : decide (1 ≤ t) = true := by simpa using h1
      have g2 : decide (t ≤ 4) = false := by simp; omega
      clear h
      go_enter Tryz.func59, Tryz.ntmps59
      go_wp2
      go_ret
      exact ⟨by rw [HV.out]; rfl, rfl⟩
    · have g1 : decide (1 ≤ t) = false := by simpa using h1
      clear h
      go_enter Tryz.func59, Tryz.ntmps59
      go_wp2
      go_ret
      exact ⟨by rw [HV.out]; rfl, rfl⟩
  all_goals
    go_enter Tryz.func59, Tryz.ntmps59
    go_wp2
    go_ret
    exact ⟨rfl, rfl⟩
theorem refName_any (t : Int) (w : World) : Calls Tryz.prog 24 #[.int .i64 t] w fun e w' => e = .returned (.string ⟨(Ty.name t).toArray⟩) ∧ Below w.heap.size w w' := by
  rcases Ty.five t with rfl | rfl | rfl | rfl | h
  case inr.inr.inr.inr =>
    have HV := Lib.hid (Ty.name_no h)
    have HB := Lib.hid (Ty.val_no h)
    clear h
    go_enter Tryz.func24, Tryz.ntmps24
    go_wp2_with (go_at_call 59; refine (refVal_any _ _).mono ?_; rintro e w1 ⟨rfl, rfl⟩; rw [HB.out])
    go_ret
    exact ⟨by rw [HV.out]; rfl, Below.refl _ _⟩
  all_goals
    go_enter Tryz.func24, Tryz.ntmps24
    go_wp2
    go_ret
    exact ⟨rfl, (Below.refl _ _).alloc (Nat.le_refl _) _⟩
set_option maxHeartbeats 1000000 in
set_option maxRecDepth 100000 in
theorem refFind_any (nm : List UInt8) (w : World) : Calls Tryz.prog 72 #[.string ⟨nm.toArray⟩] w fun e w' => e = .returned (.tuple #[.int .i64 (Ty.find nm).1, .bool (Ty.find nm).2]) ∧ Below w.heap.size w w' := by
  rcases Ty.ways (p1 := Ty.name 1 = nm) (p2 := Ty.name 2 = nm) (p3 := Ty.name 3 = nm) (p4 := Ty.name 4 = nm) ((1, true) : Int × Bool) (2, true) (3, true) (4, true) (0, false) with ⟨a1, hv⟩ | ⟨a1, a2, hv⟩ | ⟨a1, a2, a3, hv⟩ | ⟨a1, a2, a3, a4, hv⟩ | ⟨a1, a2, a3, a4, hv⟩
  all_goals have HV := Lib.hid (show Ty.find nm = _ from hv)
  all_goals clear hv
  case inl =>
    have g1 : (Ty.name 1 == nm) = true := by simpa using a1
    clear a1
    have HB := Below.refl w.heap.size w
    go_enter Tryz.func72, Tryz.ntmps72
    go_wp2_with fail
    refine wp_loop_rounds 1 ?_
    iterate 1 (rw [rounds_succ]; go_wp2_with (go_at_call 24; refine (refName_any _ _).mono ?_; rintro e w1 ⟨rfl, hb⟩; replace HB := HB.trans (hb.mono HB.size); clear hb))
    go_ret2
    exact ⟨by rw [HV.out]; rfl, HB⟩
  case inr.inl =>
    have g1 : (Ty.name 1 == nm) = false := by simpa using a1
    have g2 : (Ty.name 2 == nm) = true := by simpa using a2
    clear a1 a2
    have HB := Below.refl w.heap.size w
    go_enter Tryz.func72, Tryz.ntmps72
    go_wp2_with fail
    refine wp_loop_rounds 2 ?_
    iterate 2 (rw [rounds_succ]; go_wp2_with (go_at_call 24; refine (refName_any _ _).mono ?_; rintro e w1 ⟨rfl, hb⟩; replace HB := HB.trans (hb.mono HB.size); clear hb))
    go_ret2
    exact ⟨by rw [HV.out]; rfl, HB⟩
  case inr.inr.inl =>
    have g1 : (Ty.name 1 == nm) = false := by simpa using a1
    have g2 : (Ty.name 2 == nm) = false := by simpa using a2
    have g3 : (Ty.name 3 == nm) = true := by simpa using a3
    clear a1 a2 a3
    have HB := Below.refl w.heap.size w
    go_enter Tryz.func72, Tryz.ntmps72
    go_wp2_with fail
    refine wp_loop_rounds 3 ?_
    iterate 3 (rw [rounds_succ]; go_wp2_with (go_at_call 24; refine (refName_any _ _).mono ?_; rintro e w1 ⟨rfl, hb⟩; replace HB := HB.trans (hb.mono HB.size); clear hb))
    go_ret2
    exact ⟨by rw [HV.out]; rfl, HB⟩
  case inr.inr.inr.inl =>
    have g1 : (Ty.name 1 == nm) = false := by simpa using a1
    have g2 : (Ty.name 2 == nm) = false := by simpa using a2
    have g3 : (Ty.name 3 == nm) = false := by simpa using a3
    have g4 : (Ty.name 4 == nm) = true := by simpa using a4
    clear a1 a2 a3 a4
    have HB := Below.refl w.heap.size w
    go_enter Tryz.func72, Tryz.ntmps72
    go_wp2_with fail
    refine wp_loop_rounds 4 ?_
    iterate 4 (rw [rounds_succ]; go_wp2_with (go_at_call 24; refine (refName_any _ _).mono ?_; rintro e w1 ⟨rfl, hb⟩; replace HB := HB.trans (hb.mono HB.size); clear hb))
    go_ret2
    exact ⟨by rw [HV.out]; rfl, HB⟩
  case inr.inr.inr.inr =>
    have g1 : (Ty.name 1 == nm) = false := by simpa using a1
    have g2 : (Ty.name 2 == nm) = false := by simpa using a2
    have g3 : (Ty.name 3 == nm) = false := by simpa using a3
    have g4 : (Ty.name 4 == nm) = false := by simpa using a4
    clear a1 a2 a3 a4
    have HB := Below.refl w.heap.size w
    go_enter Tryz.func72, Tryz.ntmps72
    go_wp2_with fail
    refine wp_loop_rounds 5 ?_
    iterate 5 (rw [rounds_succ]; go_wp2_with (go_at_call 24; refine (refName_any _ _).mono ?_; rintro e w1 ⟨rfl, hb⟩; replace HB := HB.trans (hb.mono HB.size); clear hb))
    go_ret2
    exact ⟨by rw [HV.out]; rfl, HB⟩


theorem join_snoc (xs : List (List UInt8)) (y : List UInt8) (sep : List UInt8) : Lib.join (xs ++ [y]) sep = if xs = [] then y else Lib.join xs sep ++ (sep ++ y) := by
  induction xs with
  | nil => simp [Lib.join]
  | cons x xs ih =>
    cases xs with
    | nil => simp [Lib.join]
    | cons z zs =>
      simp only [List.cons_append] at ih ⊢
      simp [Lib.join] at ih ⊢
      simp [ih]

/-- The reference's text so far: the first k types, without the closing bracket. -/
def Ty.part (vs : List Int) (k : Nat) : List UInt8 := 40 :: Lib.join ((vs.take k).map Ty.shown) [44, 32]
theorem Ty.part_zero (vs : List Int) : Ty.part vs 0 = [40] := by simp [Ty.part, Lib.join]
theorem Ty.part_all (vs : List Int) : Ty.list vs = Ty.part vs vs.length ++ [41] := by simp [Ty.part, Ty.list]
theorem Ty.part_first (vs : List Int) (h : 0 < vs.length) : Ty.part vs (0 + 1) = Ty.part vs 0 ++ Ty.shown vs[0] := by
  unfold Ty.part
  rw [List.take_succ_eq_append_getElem h, List.map_append]
  simp [Lib.join]
theorem Ty.part_next (vs : List Int) (k : Nat) (hk : 0 < k) (h : k < vs.length) : Ty.part vs (k + 1) = (Ty.part vs k ++ [44, 32]) ++ Ty.shown vs[k] := by
  unfold Ty.part
  rw [List.take_succ_eq_append_getElem h, List.map_append, List.map_cons, List.map_nil, join_snoc, if_neg]
  · simp
  · intro e
    have h2 : (vs.take k).length = 0 := by rw [List.map_eq_nil_iff.1 e]; rfl
    rw [List.length_take] at h2
    omega
theorem Ty.part_len (vs : List Int) (k : Nat) : (Ty.part vs k).length ≤ 1 + 11 * k := by
  induction k with
  | zero => simp [Ty.part_zero]
  | succ k ih =>
    by_cases h : k < vs.length
    · have hs := Ty.shown_len vs[k]
      rcases Nat.eq_zero_or_pos k with rfl | hk
      · rw [Ty.part_first vs h, List.length_append]
        omega
      · rw [Ty.part_next vs k hk h]
        simp only [List.length_append, List.length_cons, List.length_nil]
        omega
    · have e : vs.take (k + 1) = vs.take k := by rw [List.take_of_length_le (by omega), List.take_of_length_le (by omega)]
      have : Ty.part vs (k + 1) = Ty.part vs k := by unfold Ty.part; rw [e]
      rw [this]
      omega

theorem cat_mk (a b : List UInt8) : (({ data := a.toArray } : ByteArray) ++ ({ data := b.toArray } : ByteArray)) = { data := (a ++ b).toArray } := by apply ByteArray.ext; simp

set_option maxHeartbeats 10000000 in
set_option maxRecDepth 100000 in
theorem refList_any (A : Option Addr) (c : Nat) (vs : List Int) (w : World) (hr : RdI w w.heap.size A vs) (hl : vs.length ≤ 5000) :
    Calls Tryz.prog 58 #[.slice A vs.length c] w fun e w' => e = .returned (.string ⟨(Ty.list vs).toArray⟩) ∧ Below w.heap.size w w' := by
  go_enter Tryz.func58, Tryz.ntmps58
  go_wp2
  go_loopw [3, 4] (fun s i wr => ∃ k : Nat, k ≤ vs.length ∧ i = .int .i64 k ∧ s = .string ⟨(Ty.part vs k).toArray⟩ ∧ Below w.heap.size w wr) (fun _ i _ => vs.length - (intOf i).toNat)
  case atStart => exact ⟨0, by omega, rfl, by rw [Ty.part_zero], Below.refl _ _⟩
  case round =>
    obtain ⟨k, hk, rfl, rfl, hb⟩ := hrel
    have hpl := Ty.part_len vs k
    by_cases hkl : k < vs.length
    · obtain ⟨ad, rfl, hblk, hcell0⟩ := hr.at_ hkl
      have hcell := (hb.cell (p := ad.add k) (by rw [block_of_add]; exact hblk)).trans hcell0
      have hsh := Ty.shown_len vs[k]
      have hl2 : (Ty.part vs k).length ≤ 100000 := by omega
      have hg : (k = 0 ∧ Ty.part vs (k + 1) = Ty.part vs k ++ Ty.shown vs[k]) ∨ (0 < k ∧ Ty.part vs (k + 1) = (Ty.part vs k ++ [44, 32]) ++ Ty.shown vs[k]) := by
        rcases Nat.eq_zero_or_pos k with rfl | h0
        · exact .inl ⟨rfl, Ty.part_first vs hkl⟩
        · exact .inr ⟨h0, Ty.part_next vs k h0 hkl⟩
      obtain ⟨t, ht⟩ : ∃ t, vs[k] = t := ⟨_, rfl⟩
      rw [ht] at hcell hg hsh
      obtain ⟨P, hP⟩ : ∃ P, Ty.part vs k = P := ⟨_, rfl⟩
      rw [hP] at hg hl2 ⊢
      have hk0 : (0 : Int) ≤ (k : Int) := Int.natCast_nonneg _
      clear hP ht hcell0 hpl
      rcases hg with ⟨hz, hn⟩ | ⟨hz, hn⟩
      all_goals
        have HN := Lib.hid hn
        clear hn
      · have gz : decide (0 < k) = false := by simp; omega
        have HZ := Lib.hid hz
        clear hz
        rcases hv : Ty.val t with _ | _
        · have HS := Lib.hid (show Ty.shown t = [63] by unfold Ty.shown; rw [hv]; rfl)
          have HV := Lib.hid hv
          clear hv
          go_wp2_with (go_at_call 59; refine (refVal_any _ _).mono ?_; rintro e w1 ⟨rfl, rfl⟩; rw [HV.out])
          go_roundw
          case rel => exact ⟨k + 1, by omega, by go_num, by rw [HN.out, HS.out]; exact congrArg Value.string (by apply ByteArray.ext; simp), hb⟩
          case measure => simp [intOf]; omega
        · have HS := Lib.hid (show Ty.shown t = Ty.name t by unfold Ty.shown; rw [hv]; rfl)
          have hnl : (Ty.name t).length ≤ 9 := by rw [← HS.out]; exact hsh
          have HV := Lib.hid hv
          clear hv
          go_wp2_with (first
            | (go_at_call 59; refine (refVal_any _ _).mono ?_; rintro e w1 ⟨rfl, rfl⟩; rw [HV.out])
            | (go_at_call 24; refine (refName_any _ _).mono ?_; rintro e w2 ⟨rfl, hb2⟩))
          go_roundw
          case rel => exact ⟨k + 1, by omega, by go_num, by rw [HN.out, HS.out]; exact congrArg Value.string (by apply ByteArray.ext; simp), hb.trans (hb2.mono hb.size)⟩
          case measure => simp [intOf]; omega
      · have gz : decide (0 < k) = true := by simp; omega
        have HZ := Lib.hid hz
        clear hz
        rcases hv : Ty.val t with _ | _
        · have HS := Lib.hid (show Ty.shown t = [63] by unfold Ty.shown; rw [hv]; rfl)
          have HV := Lib.hid hv
          clear hv
          go_wp2_with (go_at_call 59; refine (refVal_any _ _).mono ?_; rintro e w1 ⟨rfl, rfl⟩; rw [HV.out])
          go_roundw
          case rel => exact ⟨k + 1, by omega, by go_num, by rw [HN.out, HS.out]; exact congrArg Value.string (by apply ByteArray.ext; simp), hb⟩
          case measure => simp [intOf]; omega
        · have HS := Lib.hid (show Ty.shown t = Ty.name t by unfold Ty.shown; rw [hv]; rfl)
          have hnl : (Ty.name t).length ≤ 9 := by rw [← HS.out]; exact hsh
          have HV := Lib.hid hv
          clear hv
          go_wp2_with (first
            | (go_at_call 59; refine (refVal_any _ _).mono ?_; rintro e w1 ⟨rfl, rfl⟩; rw [HV.out])
            | (go_at_call 24; refine (refName_any _ _).mono ?_; rintro e w2 ⟨rfl, hb2⟩))
          go_roundw
          case rel => exact ⟨k + 1, by omega, by go_num, by rw [HN.out, HS.out]; exact congrArg Value.string (by apply ByteArray.ext; simp), hb.trans (hb2.mono hb.size)⟩
          case measure => simp [intOf]; omega
    · obtain rfl : k = vs.length := by omega
      have hall := Ty.part_all vs
      obtain ⟨P, hP⟩ : ∃ P, Ty.part vs vs.length = P := ⟨_, rfl⟩
      rw [hP] at hpl hall ⊢
      have HA := Lib.hid hall
      have hpl2 : P.length ≤ 100000 := by omega
      clear hall hP hpl
      go_wp2
      go_ret
      refine ⟨?_, hb⟩
      rw [HA.out]
      exact congrArg (fun s => Ending.returned (Value.string s)) (cat_mk P [41])

set_option maxHeartbeats 1000000 in
set_option maxRecDepth 100000 in
theorem refText_any (A1 A2 : Option Addr) (c1 c2 : Nat) (ps rs : List Int) (w : World) (h1 : RdI w w.heap.size A1 ps) (h2 : RdI w w.heap.size A2 rs) (hp : ps.length ≤ 5000) (hr : rs.length ≤ 5000) :
    Calls Tryz.prog 23 #[.agg #[.slice A1 ps.length c1, .slice A2 rs.length c2]] w fun e w' => e = .returned (.string ⟨(Ty.text ps rs).toArray⟩) ∧ Below w.heap.size w w' := by
  have l1 := list_len ps hp
  have l2 := list_len rs hr
  obtain ⟨X, hX⟩ : ∃ X, Ty.list ps = X := ⟨_, rfl⟩
  obtain ⟨Y, hY⟩ : ∃ Y, Ty.list rs = Y := ⟨_, rfl⟩
  have C1 : Hid (∀ W : World, RdI W W.heap.size A1 ps → Calls Tryz.prog 58 #[.slice A1 ps.length c1] W fun e w' => e = .returned (.string ⟨X.toArray⟩) ∧ Below W.heap.size W w') := fun W h => by rw [← hX]; exact refList_any A1 c1 ps W h hp
  have C2 : Hid (∀ W : World, RdI W W.heap.size A2 rs → Calls Tryz.prog 58 #[.slice A2 rs.length c2] W fun e w' => e = .returned (.string ⟨Y.toArray⟩) ∧ Below W.heap.size W w') := fun W h => by rw [← hY]; exact refList_any A2 c2 rs W h hr
  rw [hX] at l1
  rw [hY] at l2
  have HX := Lib.hid hX
  have HY := Lib.hid hY
  clear hX hY hp hr
  have ad1 : ∀ W : World, (Op.stringOp .add ({ data := X.toArray } : ByteArray) ({ data := #[32, 45, 62, 32] } : ByteArray)).run Tryz.prog W = .ok (.string (({ data := X.toArray } : ByteArray) ++ ({ data := #[32, 45, 62, 32] } : ByteArray))) W := fun W => run_string_add_sum W _ _ (by show X.toArray.size + 4 ≤ _; simp; omega)
  have ad2 : ∀ W : World, (Op.stringOp .add (({ data := X.toArray } : ByteArray) ++ ({ data := #[32, 45, 62, 32] } : ByteArray)) ({ data := Y.toArray } : ByteArray)).run Tryz.prog W = .ok (.string (({ data := X.toArray } : ByteArray) ++ ({ data := #[32, 45, 62, 32] } : ByteArray) ++ ({ data := Y.toArray } : ByteArray))) W := fun W => run_string_add_sum W _ _ (by simp [ByteArray.size_append]; show X.toArray.size + 4 + Y.toArray.size ≤ _; simp; omega)
  go_enter Tryz.func23, Tryz.ntmps23
  go_wp2_with fail
  go_region_held3 (fun w' => w'.cell? ⟨w.heap.size, 0, none⟩ = some (.slice A1 ps.length c1) ∧ w'.cell? ⟨w.heap.size, 1, none⟩ = some (.slice A2 rs.length c2))
    (go_keep)
    (first
      | (go_at_call 58; (with_reducible refine (C1.out _ ?_).mono ?_); exact box_rdi h1 _; rintro e w1 ⟨rfl, hb1⟩; obtain ⟨q0, q1, q2, b1⟩ := box_keep hb1; clear hb1)
      | (go_at_call 58; (with_reducible refine (C2.out _ ?_).mono ?_); exact ((h2.below b1).more (Nat.le_of_succ_le q2)); rintro e w2 ⟨rfl, hb2⟩; obtain ⟨q3, q4⟩ := keep_on q0 q1 q2 hb2))
  all_goals
    go_wp2
    go_ret
    have e : Ty.text ps rs = X ++ ([32, 45, 62, 32] ++ Y) := by unfold Ty.text; rw [HX.out, HY.out]
    have eb : (({ data := X.toArray } : ByteArray) ++ ({ data := #[32, 45, 62, 32] } : ByteArray) ++ ({ data := Y.toArray } : ByteArray)) = { data := (X ++ ([32, 45, 62, 32] ++ Y)).toArray } := by apply ByteArray.ext; simp
    rw [e]
    refine ⟨congrArg (fun s => Ending.returned (Value.string s)) eb, ?_⟩
    exact b1.trans (hb2.mono (by omega))

end Go.Proofs.YtmhmpobjjhbklaaGreatDoor
