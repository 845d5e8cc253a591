/-
  The reference's list: its contract.
-/
import Derived.Test.YtkljmdekihlkeaaTypesJoin
import Derived.Deep.RegionHeld3
set_option linter.unusedVariables false
namespace Go.Proofs.Ytkljmdekihlkeaa
open Go.RowKit

theorem cat_mk (a b : List UInt8) : (({ data := a.toArray } : ByteArray) ++ ({ data := b.toArray } : ByteArray)) = { data := (a ++ b).toArray } := by apply ByteArray.ext; simp

set_option maxHeartbeats 2000000 in
set_option maxRecDepth 100000 in
theorem refList_any (A : Option Addr) (c : Nat) (vs : List Int) (w : World) (hr : RdI w w.heap.size A vs) (hl : vs.length ≤ 1000) :
    Calls Try.prog 44 #[.slice A vs.length c] w fun e w' => e = .returned (.string ⟨(Ty.list vs).toArray⟩) ∧ Below w.heap.size w w' := by
  go_enter Try.func44, Try.ntmps44
  go_wp2
  go_loopw [3, 4] (fun s i wr => ∃ k : Nat, k ≤ vs.length ∧ i = .int .i64 k ∧ s = .string ⟨(Ty.part vs k).toArray⟩ ∧ Below w.heap.size w wr) (fun _ i _ => vs.length - (intOf i).toNat)
  case atStart => exact ⟨0, by omega, rfl, by rw [Ty.part_zero], Below.refl _ _⟩
  case round =>
    obtain ⟨k, hk, rfl, rfl, hb⟩ := hrel
    have hpl := Ty.part_len vs k
    by_cases hkl : k < vs.length
    · obtain ⟨ad, rfl, hblk, hcell0⟩ := hr.at_ hkl
      have hcell := (hb.cell (p := ad.add k) (by rw [block_of_add]; exact hblk)).trans hcell0
      have hsh := Ty.shown_len vs[k]
      have hl2 : (Ty.part vs k).length ≤ 20000 := by omega
      have hg : (k = 0 ∧ Ty.part vs (k + 1) = Ty.part vs k ++ Ty.shown vs[k]) ∨ (0 < k ∧ Ty.part vs (k + 1) = (Ty.part vs k ++ [44, 32]) ++ Ty.shown vs[k]) := by
        rcases Nat.eq_zero_or_pos k with rfl | h0
        · exact .inl ⟨rfl, Ty.part_first vs hkl⟩
        · exact .inr ⟨h0, Ty.part_next vs k h0 hkl⟩
      obtain ⟨t, ht⟩ : ∃ t, vs[k] = t := ⟨_, rfl⟩
      rw [ht] at hcell hg hsh
      obtain ⟨P, hP⟩ : ∃ P, Ty.part vs k = P := ⟨_, rfl⟩
      rw [hP] at hg hl2 ⊢
      have hk0 : (0 : Int) ≤ (k : Int) := Int.natCast_nonneg _
      clear hP ht hcell0 hpl
      rcases hg with ⟨hz, hn⟩ | ⟨hz, hn⟩
      all_goals
        have HN := Lib.hid hn
        clear hn
      · have gz : decide (0 < k) = false := by simp; omega
        have HZ := Lib.hid hz
        clear hz
        rcases hv : Ty.val t with _ | _
        · have HS := Lib.hid (show Ty.shown t = [63] by unfold Ty.shown; rw [hv]; rfl)
          have HV := Lib.hid hv
          clear hv
          go_wp2_with (go_at_call 33; refine (refVal_any _ _).mono ?_; rintro e w1 ⟨rfl, rfl⟩; rw [HV.out])
          go_roundw
          case rel => exact ⟨k + 1, by omega, by go_num, by rw [HN.out, HS.out]; exact congrArg Value.string (by apply ByteArray.ext; simp), hb⟩
          case measure => simp [intOf]; omega
        · have HS := Lib.hid (show Ty.shown t = Ty.name t by unfold Ty.shown; rw [hv]; rfl)
          have hnl : (Ty.name t).length ≤ 9 := by rw [← HS.out]; exact hsh
          have HV := Lib.hid hv
          clear hv
          go_wp2_with (first
            | (go_at_call 33; refine (refVal_any _ _).mono ?_; rintro e w1 ⟨rfl, rfl⟩; rw [HV.out])
            | (go_at_call 39; refine (refName_any _ _).mono ?_; rintro e w2 ⟨rfl, hb2⟩))
          go_roundw
          case rel => exact ⟨k + 1, by omega, by go_num, by rw [HN.out, HS.out]; exact congrArg Value.string (by apply ByteArray.ext; simp), hb.trans (hb2.mono hb.size)⟩
          case measure => simp [intOf]; omega
      · have gz : decide (0 < k) = true := by simp; omega
        have HZ := Lib.hid hz
        clear hz
        rcases hv : Ty.val t with _ | _
        · have HS := Lib.hid (show Ty.shown t = [63] by unfold Ty.shown; rw [hv]; rfl)
          have HV := Lib.hid hv
          clear hv
          go_wp2_with (go_at_call 33; refine (refVal_any _ _).mono ?_; rintro e w1 ⟨rfl, rfl⟩; rw [HV.out])
          go_roundw
          case rel => exact ⟨k + 1, by omega, by go_num, by rw [HN.out, HS.out]; exact congrArg Value.string (by apply ByteArray.ext; simp), hb⟩
          case measure => simp [intOf]; omega
        · have HS := Lib.hid (show Ty.shown t = Ty.name t by unfold Ty.shown; rw [hv]; rfl)
          have hnl : (Ty.name t).length ≤ 9 := by rw [← HS.out]; exact hsh
          have HV := Lib.hid hv
          clear hv
          go_wp2_with (first
            | (go_at_call 33; refine (refVal_any _ _).mono ?_; rintro e w1 ⟨rfl, rfl⟩; rw [HV.out])
            | (go_at_call 39; refine (refName_any _ _).mono ?_; rintro e w2 ⟨rfl, hb2⟩))
          go_roundw
          case rel => exact ⟨k + 1, by omega, by go_num, by rw [HN.out, HS.out]; exact congrArg Value.string (by apply ByteArray.ext; simp), hb.trans (hb2.mono hb.size)⟩
          case measure => simp [intOf]; omega
    · obtain rfl : k = vs.length := by omega
      have hall := Ty.part_all vs
      obtain ⟨P, hP⟩ : ∃ P, Ty.part vs vs.length = P := ⟨_, rfl⟩
      rw [hP] at hpl hall ⊢
      have HA := Lib.hid hall
      have hpl2 : P.length ≤ 20000 := by omega
      clear hall hP hpl
      go_wp2
      go_ret
      refine ⟨?_, hb⟩
      rw [HA.out]
      exact congrArg (fun s => Ending.returned (Value.string s)) (cat_mk P [41])

set_option maxHeartbeats 1000000 in
set_option maxRecDepth 100000 in
theorem refText_any (A1 A2 : Option Addr) (c1 c2 : Nat) (ps rs : List Int) (w : World) (h1 : RdI w w.heap.size A1 ps) (h2 : RdI w w.heap.size A2 rs) (hp : ps.length ≤ 1000) (hr : rs.length ≤ 1000) :
    Calls Try.prog 25 #[.agg #[.slice A1 ps.length c1, .slice A2 rs.length c2]] w fun e w' => e = .returned (.string ⟨(Ty.text ps rs).toArray⟩) ∧ Below w.heap.size w w' := by
  have l1 := list_len ps hp
  have l2 := list_len rs hr
  obtain ⟨X, hX⟩ : ∃ X, Ty.list ps = X := ⟨_, rfl⟩
  obtain ⟨Y, hY⟩ : ∃ Y, Ty.list rs = Y := ⟨_, rfl⟩
  have C1 : Hid (∀ W : World, RdI W W.heap.size A1 ps → Calls Try.prog 44 #[.slice A1 ps.length c1] W fun e w' => e = .returned (.string ⟨X.toArray⟩) ∧ Below W.heap.size W w') := fun W h => by rw [← hX]; exact refList_any A1 c1 ps W h hp
  have C2 : Hid (∀ W : World, RdI W W.heap.size A2 rs → Calls Try.prog 44 #[.slice A2 rs.length c2] W fun e w' => e = .returned (.string ⟨Y.toArray⟩) ∧ Below W.heap.size W w') := fun W h => by rw [← hY]; exact refList_any A2 c2 rs W h hr
  rw [hX] at l1
  rw [hY] at l2
  have HX := Lib.hid hX
  have HY := Lib.hid hY
  clear hX hY hp hr
  have ad1 : ∀ W : World, (Op.stringOp .add ({ data := X.toArray } : ByteArray) ({ data := #[32, 45, 62, 32] } : ByteArray)).run Try.prog W = .ok (.string (({ data := X.toArray } : ByteArray) ++ ({ data := #[32, 45, 62, 32] } : ByteArray))) W := fun W => run_string_add_sum W _ _ (by show X.toArray.size + 4 ≤ _; simp; omega)
  have ad2 : ∀ W : World, (Op.stringOp .add (({ data := X.toArray } : ByteArray) ++ ({ data := #[32, 45, 62, 32] } : ByteArray)) ({ data := Y.toArray } : ByteArray)).run Try.prog W = .ok (.string (({ data := X.toArray } : ByteArray) ++ ({ data := #[32, 45, 62, 32] } : ByteArray) ++ ({ data := Y.toArray } : ByteArray))) W := fun W => run_string_add_sum W _ _ (by simp [ByteArray.size_append]; show X.toArray.size + 4 + Y.toArray.size ≤ _; simp; omega)
  go_enter Try.func25, Try.ntmps25
  go_wp2_with fail
  go_region_held3 (fun w' => w'.cell? ⟨w.heap.size, 0, none⟩ = some (.slice A1 ps.length c1) ∧ w'.cell? ⟨w.heap.size, 1, none⟩ = some (.slice A2 rs.length c2))
    (go_keep)
    (first
      | (go_at_call 44; (with_reducible refine (C1.out _ ?_).mono ?_); exact box_rdi h1 _; rintro e w1 ⟨rfl, hb1⟩; obtain ⟨q0, q1, q2, b1⟩ := box_keep hb1; clear hb1)
      | (go_at_call 44; (with_reducible refine (C2.out _ ?_).mono ?_); exact ((h2.below b1).more (Nat.le_of_succ_le q2)); rintro e w2 ⟨rfl, hb2⟩; obtain ⟨q3, q4⟩ := keep_on q0 q1 q2 hb2))
  all_goals
    go_wp2
    go_ret
    have e : Ty.text ps rs = X ++ ([32, 45, 62, 32] ++ Y) := by unfold Ty.text; rw [HX.out, HY.out]
    have eb : (({ data := X.toArray } : ByteArray) ++ ({ data := #[32, 45, 62, 32] } : ByteArray) ++ ({ data := Y.toArray } : ByteArray)) = { data := (X ++ ([32, 45, 62, 32] ++ Y)).toArray } := by apply ByteArray.ext; simp
    rw [e]
    refine ⟨congrArg (fun s => Ending.returned (Value.string s)) eb, ?_⟩
    exact b1.trans (hb2.mono (by omega))

end Go.Proofs.Ytkljmdekihlkeaa
