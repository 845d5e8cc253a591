/-
  Layer 27, the reference: Right, Text, Zero.
-/
import Derived.Test.YtilflcbmejhepaaDoorValTwo
set_option linter.unusedVariables false
set_option linter.unusedSimpArgs false
namespace Go.Proofs.YtilflcbmejhepaaDoor
open Go.RowKit
open Val (V)

theorem rtypes_any (t : Int) (w : World) : Calls Tryd.prog 27 #[.int .i64 t] w fun e w' => e = .returned (.bool (valB t)) ∧ w = w' := by
  have hv : valB t = (decide (1 ≤ t) && decide (t ≤ 4)) := by
    unfold valB numB refB
    rw [Bool.eq_iff_iff]; simp; omega
  rw [hv]
  rcases h1 : decide (1 ≤ t) with _ | _ <;> rcases h2 : decide (t ≤ 4) with _ | _
  all_goals
    clear hv
    go_enter Tryd.func27, Tryd.ntmps27
    go_wp2
    go_ret
    exact ⟨rfl, rfl⟩
set_option maxHeartbeats 4000000 in
set_option maxRecDepth 100000 in
theorem rright_any (v : V) (hn : v.n < 18446744073709551616) (w : World) : Calls Tryd.prog 9 #[vv v] w fun e w' => e = .returned (.bool (Val.right v)) ∧ Below w.heap.size w w' := by
  rw [right_split v]
  obtain ⟨t, n⟩ := v
  unfold vv
  dsimp only
  rcases h0 : valB t with _ | _ <;> rcases h1 : (t == 1) with _ | _ <;> rcases h2 : decide ((n : Int) < 4294967296) with _ | _
  all_goals
    have n1 : (t != 1) = !(t == 1) := rfl
    rw [h1] at n1
    have H0 := Lib.hid h0
    clear h0
    go_enter Tryd.func9, Tryd.ntmps9
    go_wp2_with (go_at_call 27; refine (rtypes_any _ _).mono ?_; rintro e w1 ⟨rfl, rfl⟩; rw [H0.out])
    go_ret
    exact ⟨rfl, by go_grown⟩

set_option maxHeartbeats 4000000 in
set_option maxRecDepth 100000 in
theorem rzero_any (t : Int) (w : World) : Calls Tryd.prog 13 #[.int .i64 t] w fun e w' => e = .returned (vv ⟨if valB t = true then t else 0, 0⟩) ∧ Below w.heap.size w w' := by
  rcases h0 : valB t with _ | _
  all_goals
    have H0 := Lib.hid h0
    clear h0
    go_enter Tryd.func13, Tryd.ntmps13
    go_wp2_with (go_at_call 27; refine (rtypes_any _ _).mono ?_; rintro e w1 ⟨rfl, rfl⟩; rw [H0.out])
    go_returns
    exact ⟨rfl, by go_grown⟩

theorem enc_dig : ∀ n : Nat, n < 10 → Utf8.encode (48 + (n : Int)) = ⟨#[UInt8.ofNat (48 + n)]⟩
  | 0, _ => rfl | 1, _ => rfl | 2, _ => rfl | 3, _ => rfl | 4, _ => rfl | 5, _ => rfl | 6, _ => rfl | 7, _ => rfl | 8, _ => rfl | 9, _ => rfl
  | n + 10, h => absurd h (by omega)
set_option maxHeartbeats 4000000 in
set_option maxRecDepth 100000 in
theorem nat_any (n : Nat) (hn : n < 18446744073709551616) : ∀ (w : World), Calls Tryd.prog 45 #[.int .u64 (n : Int)] w fun e w' => e = .returned (.string ⟨(Lib.decDigits n).toArray⟩) ∧ w = w' := by
  induction n using Nat.strongRecOn with
  | _ n ih =>
  intro w
  by_cases h : n < 10
  · have d1 : decide ((n : Int) < 10) = true := by simp; omega
    have d2 : decide (n < 10) = true := by simpa using h
    have u1 : IntKind.u64.wrap (48 + (n : Int)) = 48 + (n : Int) := by rw [IntKind.wrap_u64]; omega
    have u2 : IntKind.i32.wrap (48 + (n : Int)) = 48 + (n : Int) := by rw [IntKind.wrap_i32]; omega
    have HE := Lib.hid (enc_dig n h)
    have HD := Lib.hid (Val.dec_small h)
    clear h ih
    go_enter Tryd.func45, Tryd.ntmps45
    go_wp2
    go_ret
    exact ⟨by rw [HD.out]; exact congrArg (fun s => Ending.returned (.string s)) HE.out, rfl⟩
  · have d1 : decide ((n : Int) < 10) = false := by simp; omega
    have d2 : decide (n < 10) = false := by simpa using h
    have HD := Lib.hid (Val.dec_big h)
    have hm := Val.dec_small (u := n % 10) (by omega)
    obtain ⟨q, hq⟩ : ∃ q, n / 10 = q := ⟨_, rfl⟩
    obtain ⟨r, hr⟩ : ∃ r, n % 10 = r := ⟨_, rfl⟩
    have m1 : (n : Int).tdiv 10 = (q : Int) := by rw [Int.tdiv_eq_ediv_of_nonneg (by omega)]; omega
    have m2 : (n : Int) / 10 = (q : Int) := by omega
    have m3 : (n : Int).tmod 10 = (r : Int) := by rw [Int.tmod_eq_emod_of_nonneg (by omega)]; omega
    have m4 : (n : Int) % 10 = (r : Int) := by omega
    have u1 : IntKind.u64.wrap (q : Int) = (q : Int) := by rw [IntKind.wrap_u64]; omega
    have u2 : IntKind.u64.wrap (r : Int) = (r : Int) := by rw [IntKind.wrap_u64]; omega
    have hl := Val.dec_len64 (u := q) (by omega)
    have hl2 := Val.dec_len64 (u := r) (by omega)
    have HQ := Lib.hid (ih q (by omega) (by omega))
    have HR := Lib.hid (ih r (by omega) (by omega))
    have e1 := bytes_cat (Lib.decDigits q) (Lib.decDigits r)
    have ed : Lib.decDigits n = Lib.decDigits q ++ Lib.decDigits r := by rw [HD.out, ← hr, hm, hq]
    have E1 := Lib.hid e1
    have ED := Lib.hid ed
    clear ih h HD hm e1 ed hn
    go_enter Tryd.func45, Tryd.ntmps45
    go_wp2_with (go_at_call 45; first | (with_reducible refine (HQ.out _).mono ?_; rintro e w1 ⟨rfl, rfl⟩) | (with_reducible refine (HR.out _).mono ?_; rintro e w1 ⟨rfl, rfl⟩))
    go_ret
    exact ⟨(congrArg (fun s => Ending.returned (.string s)) E1.out).trans (congrArg (fun l : List UInt8 => Ending.returned (.string ⟨l.toArray⟩)) ED.out.symm), rfl⟩
set_option maxHeartbeats 4000000 in
set_option maxRecDepth 100000 in
theorem signed_any (k : Int) (h0 : -9223372036854775808 ≤ k) (h1 : k ≤ 9223372036854775807) (w : World) : Calls Tryd.prog 31 #[.int .i64 k] w fun e w' => e = .returned (.string ⟨(Lib.itoa k).toArray⟩) ∧ w = w' := by
  unfold Lib.itoa
  by_cases h : k < 0
  · rw [if_pos h]
    have d1 : decide (k < 0) = true := by simpa using h
    obtain ⟨m, hm⟩ : ∃ m, k.natAbs = m := ⟨_, rfl⟩
    rw [hm]
    have u1 : IntKind.u64.wrap k = 18446744073709551616 - (m : Int) := by rw [IntKind.wrap_u64]; omega
    have u2 : IntKind.u64.wrap (-(18446744073709551616 - (m : Int))) = (m : Int) := by rw [IntKind.wrap_u64]; omega
    have u3 : IntKind.u64.wrap ((m : Int) - 18446744073709551616) = (m : Int) := by rw [IntKind.wrap_u64]; omega
    have hl := Val.dec_len64 (u := m) (by omega)
    have HN := Lib.hid (nat_any m (by omega))
    have E1 := Lib.hid (bytes_cat [45] (Lib.decDigits m))
    clear h h0 h1 hm
    go_enter Tryd.func31, Tryd.ntmps31
    go_wp2_with (go_at_call 45; refine (HN.out _).mono ?_; rintro e w1 ⟨rfl, rfl⟩)
    go_ret
    exact ⟨congrArg (fun s => Ending.returned (.string s)) E1.out, rfl⟩
  · rw [if_neg h]
    have d1 : decide (k < 0) = false := by simpa using h
    obtain ⟨m, rfl⟩ : ∃ m : Nat, k = (m : Int) := ⟨k.toNat, by omega⟩
    rw [Int.toNat_natCast]
    have u1 : IntKind.u64.wrap (m : Int) = (m : Int) := by rw [IntKind.wrap_u64]; omega
    have HN := Lib.hid (nat_any m (by omega))
    clear h h0 h1
    go_enter Tryd.func31, Tryd.ntmps31
    go_wp2_with (go_at_call 45; refine (HN.out _).mono ?_; rintro e w1 ⟨rfl, rfl⟩)
    go_ret
    exact ⟨rfl, rfl⟩
set_option maxHeartbeats 4000000 in
set_option maxRecDepth 100000 in
theorem rreference_any (n : Nat) (hn : n < 18446744073709551616) (k : List UInt8) (hk : k.length ≤ 100) (w : World) : Calls Tryd.prog 32 #[.int .u64 (n : Int), .string ⟨k.toArray⟩] w fun e w' => e = .returned (.string ⟨(Val.refT n k).toArray⟩) ∧ Below w.heap.size w w' := by
  unfold Val.refT
  by_cases h0 : n = 0
  · subst h0
    rw [if_pos rfl]
    have l1 : ¬ 9223372036854775807 < 9 + k.length := by omega
    go_enter Tryd.func32, Tryd.ntmps32
    go_wp2_with fail
    go_ret
    exact ⟨rfl, Below.refl _ _⟩
  · rw [if_neg h0]
    have hd := Val.dec_len64 (u := n - 1) (by omega)
    have l1 : ¬ 9223372036854775807 < 4 + k.length := by omega
    have l2 : ¬ 9223372036854775807 < k.length + 4 + 1 := by omega
    have l3 : ¬ 9223372036854775807 < k.length + 1 + 4 + (Lib.decDigits (n - 1)).length := by omega
    clear hd
    have h1 : ((n : Int) == 0) = false := by simpa using h0
    have u1 : IntKind.u64.wrap ((n : Int) - 1) = ((n - 1 : Nat) : Int) := by rw [IntKind.wrap_u64]; omega
    have e1 : ({ data := #[114, 101, 102, 46] } : ByteArray) ++ ⟨k.toArray⟩ ++ ⟨#[32]⟩ ++ ⟨(Lib.decDigits (n - 1)).toArray⟩ = ⟨([114, 101, 102, 46] ++ k ++ [32] ++ Lib.decDigits (n - 1)).toArray⟩ := by
      rw [← bytes_cat, ← bytes_cat, ← bytes_cat]
    have HC := Lib.hid (nat_any (n - 1) (by omega) w)
    have E1 := Lib.hid e1
    clear e1 h0
    go_enter Tryd.func32, Tryd.ntmps32
    go_wp2_with (go_at_call 45; refine HC.out.mono ?_; rintro e w1 ⟨rfl, rfl⟩)
    go_ret
    exact ⟨congrArg (fun s => Ending.returned (.string s)) E1.out, Below.refl _ _⟩
set_option maxHeartbeats 4000000 in
set_option maxRecDepth 100000 in
theorem rtext_any (v : V) (hn : v.n < 18446744073709551616) (w : World) : Calls Tryd.prog 11 #[vv v] w fun e w' => e = .returned (.string ⟨(Val.text v).toArray⟩) ∧ Below w.heap.size w w' := by
  have hR := fun W => rright_any v hn W
  have HR := Lib.hid hR
  clear hR
  unfold Val.text
  rcases h : Val.right v with _ | _
  · rw [if_neg (by decide)]
    have H := Lib.hid h
    clear h
    obtain ⟨t, n⟩ := v
    unfold vv at *
    dsimp only at *
    go_enter Tryd.func11, Tryd.ntmps11
    go_wp2_with (go_at_call 9; refine (HR.out _).mono ?_; rintro e w1 ⟨rfl, hb⟩; rw [H.out])
    go_ret
    exact ⟨rfl, Below.trans (by go_grown) (hb.mono (by simp))⟩
  · rw [if_pos rfl]
    have hr := (Val.right_iff v).1 h
    have H := Lib.hid h
    clear h
    obtain ⟨t, n⟩ := v
    unfold vv at *
    dsimp only at *
    have hst : Var (w.alloc (.cells #[.int .i64 t, .int .u64 (n : Int)] 25)) w.heap.size #[.int .i64 t, .int .u64 (n : Int)] 25 := Var.new _ _ _
    have HST := Lib.hid hst
    clear hst
    obtain ⟨h1, h4, h5⟩ := hr
    have hcase : t = 1 ∨ t = 2 ∨ t = 3 ∨ t = 4 := by omega
    clear h1 h4
    rcases hcase with rfl | rfl | rfl | rfl
    · have h6 := h5 rfl
      have u1 : IntKind.u32.wrap (n : Int) = (n : Int) := by rw [IntKind.wrap_u32]; omega
      have u2 : IntKind.i32.wrap (n : Int) = Val.s32 n := by rw [IntKind.wrap_i32]; unfold Val.s32; split <;> omega
      have hb := Val.s32_in n
      have u3 : IntKind.i64.wrap (Val.s32 n) = Val.s32 n := by rw [IntKind.wrap_i64]; omega
      have HC := Lib.hid (fun (W : World) => signed_any (Val.s32 n) (by omega) (by omega) W)
      clear hb h5 h6
      rw [if_pos rfl]
      have e1 := bytes_cat [105, 51, 50, 32] (Lib.itoa (Val.s32 n))
      have l1 : ¬ 9223372036854775807 < 4 + (Lib.itoa (Val.s32 n)).length := by have := Val.s32_in n; have := itoa_len (k := Val.s32 n) (by omega) (by omega); omega
      have E1 := Lib.hid e1
      clear e1
      go_enter Tryd.func11, Tryd.ntmps11
      go_wp2_with (first
        | (go_at_call 9; refine (HR.out _).mono ?_; rintro e w1 ⟨rfl, hb⟩; rw [H.out]; have HB := Lib.hid hb; have hv := HST.out.below hb (by simp); have r0 := hv.cells 0; have r1 := hv.cells 1; clear hv hb)
        | (go_at_call 31; refine (HC.out _).mono ?_; rintro e w2 ⟨rfl, rfl⟩))
      go_ret
      exact ⟨congrArg (fun s => Ending.returned (.string s)) E1.out, below_one HB.out⟩
    · have u1 : IntKind.i64.wrap (n : Int) = Val.s64 n := by rw [IntKind.wrap_i64]; unfold Val.s64; split <;> omega
      have hb := Val.s64_in hn
      have HC := Lib.hid (fun (W : World) => signed_any (Val.s64 n) (by omega) (by omega) W)
      clear hb h5
      rw [if_neg (by decide), if_pos rfl]
      have e1 := bytes_cat [105, 54, 52, 32] (Lib.itoa (Val.s64 n))
      have l1 : ¬ 9223372036854775807 < 4 + (Lib.itoa (Val.s64 n)).length := by have := Val.s64_in hn; have := itoa_len (k := Val.s64 n) (by omega) (by omega); omega
      have E1 := Lib.hid e1
      clear e1
      go_enter Tryd.func11, Tryd.ntmps11
      go_wp2_with (first
        | (go_at_call 9; refine (HR.out _).mono ?_; rintro e w1 ⟨rfl, hb⟩; rw [H.out]; have HB := Lib.hid hb; have hv := HST.out.below hb (by simp); have r0 := hv.cells 0; have r1 := hv.cells 1; clear hv hb)
        | (go_at_call 31; refine (HC.out _).mono ?_; rintro e w2 ⟨rfl, rfl⟩))
      go_ret
      exact ⟨congrArg (fun s => Ending.returned (.string s)) E1.out, below_one HB.out⟩
    · have HC := Lib.hid (fun (W : World) => rreference_any n hn Val.bFunc (by decide) W)
      clear h5
      rw [if_neg (by decide), if_neg (by decide), if_pos rfl]
      go_enter Tryd.func11, Tryd.ntmps11
      go_wp2_with (first
        | (go_at_call 9; refine (HR.out _).mono ?_; rintro e w1 ⟨rfl, hb⟩; rw [H.out]; have HB := Lib.hid hb; have hv := HST.out.below hb (by simp); have r0 := hv.cells 0; have r1 := hv.cells 1; clear hv hb)
        | (go_at_call 32; refine (HC.out _).mono ?_; rintro e w2 ⟨rfl, hb2⟩))
      go_ret
      exact ⟨rfl, below_box HB.out hb2⟩
    · have HC := Lib.hid (fun (W : World) => rreference_any n hn Val.bExtern (by decide) W)
      clear h5
      rw [if_neg (by decide), if_neg (by decide), if_neg (by decide)]
      go_enter Tryd.func11, Tryd.ntmps11
      go_wp2_with (first
        | (go_at_call 9; refine (HR.out _).mono ?_; rintro e w1 ⟨rfl, hb⟩; rw [H.out]; have HB := Lib.hid hb; have hv := HST.out.below hb (by simp); have r0 := hv.cells 0; have r1 := hv.cells 1; clear hv hb)
        | (go_at_call 32; refine (HC.out _).mono ?_; rintro e w2 ⟨rfl, hb2⟩))
      go_ret
      exact ⟨rfl, below_box HB.out hb2⟩

end Go.Proofs.YtilflcbmejhepaaDoor
