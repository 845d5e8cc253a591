/-
  Layer 40, the reference: nat, num, field, list, vals, kinds, ends.
-/
import Derived.Test.YtmhmpobjjhbklaaGreatDoorSt6
import Derived.Test.YtmhmpobjjhbklaaGreatDoorStTy3
set_option linter.unusedVariables false
set_option linter.unusedSimpArgs false
namespace Go.Proofs.YtmhmpobjjhbklaaGreatDoor
namespace St
/-- Words, each behind a blank. -/
def sp (l : List (List UInt8)) : List UInt8 := l.flatMap (32 :: ·)
theorem sp_cons (a : List UInt8) (l : List (List UInt8)) : sp (a :: l) = 32 :: a ++ sp l := rfl
theorem sp_app (a b : List (List UInt8)) : sp (a ++ b) = sp a ++ sp b := by simp [sp]
def rlist (label : List UInt8) (l : List Int) : List UInt8 := if l = [] then [] else 32 :: label ++ sp (l.map Lib.itoa)
def rfield (label : List UInt8) (n : Int) : List UInt8 := if n = 0 then [] else 32 :: label ++ (32 :: Lib.itoa n)
theorem sp_len {l : List Int} (h : ∀ z ∈ l, InR z) : (sp (l.map Lib.itoa)).length ≤ 21 * l.length := by
  induction l with
  | nil => simp [sp]
  | cons z l ih =>
    have := itoa_len (h z (by simp))
    have := ih fun z hz => h z (by simp [hz])
    rw [List.map_cons, sp_cons]
    simp; omega
theorem rlist_len {s : List UInt8} {l : List Int} (h : ∀ z ∈ l, InR z) : (rlist s l).length ≤ s.length + 1 + 21 * l.length := by
  have := sp_len h
  unfold rlist
  split <;> simp <;> omega
theorem rfield_len {s : List UInt8} {z : Int} (h : InR z) : (rfield s z).length ≤ s.length + 22 := by
  have := itoa_len h
  unfold rfield
  split <;> simp <;> omega
theorem dec_big {n : Nat} (h : ¬ n < 10) : Lib.decDigits n = Lib.decDigits (n / 10) ++ [UInt8.ofNat (48 + n % 10)] := by rw [Lib.decDigits, dif_neg h]
theorem dec_small {n : Nat} (h : n < 10) : Lib.decDigits n = [UInt8.ofNat (48 + n)] := by rw [Lib.decDigits, dif_pos h]
theorem cut10 : ∀ d : Nat, d < 10 → (ByteArray.mk #[48, 49, 50, 51, 52, 53, 54, 55, 56, 57]).extract d (d + 1) = ⟨#[UInt8.ofNat (48 + d)]⟩
  | 0, _ => rfl | 1, _ => rfl | 2, _ => rfl | 3, _ => rfl | 4, _ => rfl | 5, _ => rfl | 6, _ => rfl | 7, _ => rfl | 8, _ => rfl | 9, _ => rfl
  | n + 10, h => absurd h (by omega)
end St
open Go.RowKit
open St (InR)

set_option maxHeartbeats 4000000 in
set_option maxRecDepth 100000 in
theorem rnat_any (n : Nat) (hn : n < 18446744073709551616) : ∀ (w : World), Calls Tryz.prog 60 #[.int .u64 (n : Int)] w fun e w' => e = .returned (.string ⟨(Lib.decDigits n).toArray⟩) ∧ w = w' := by
  induction n using Nat.strongRecOn with
  | _ n ih =>
  intro w
  obtain ⟨q, hq⟩ : ∃ q, n / 10 = q := ⟨_, rfl⟩
  obtain ⟨r, hr⟩ : ∃ r, n % 10 = r := ⟨_, rfl⟩
  have m1 : (n : Int).tdiv 10 = (q : Int) := by rw [Int.tdiv_eq_ediv_of_nonneg (by omega)]; omega
  have m2 : (n : Int) / 10 = (q : Int) := by omega
  have m3 : (n : Int).tmod 10 = (r : Int) := by rw [Int.tmod_eq_emod_of_nonneg (by omega)]; omega
  have m4 : (n : Int) % 10 = (r : Int) := by omega
  have u1 : IntKind.u64.wrap (q : Int) = (q : Int) := by rw [IntKind.wrap_u64]; omega
  have u2 : IntKind.u64.wrap (r : Int) = (r : Int) := by rw [IntKind.wrap_u64]; omega
  have u3 : IntKind.u64.wrap ((r : Int) + 1) = (r : Int) + 1 := by rw [IntKind.wrap_u64]; omega
  have r1 : (r : Int) + 1 ≤ 10 := by omega
  have r2 : (0 : Int) ≤ (r : Int) + 1 := by omega
  have r3 : (r : Int) ≤ (r : Int) + 1 := by omega
  have r4 : r + 1 ≤ 10 := by omega
  have t1 : ((r : Int) + 1).toNat = r + 1 := by omega
  have HC := Lib.hid (St.cut10 r (by omega))
  obtain ⟨dg, hdg⟩ : ∃ dg, UInt8.ofNat (48 + r) = dg := ⟨_, rfl⟩
  rw [hdg] at HC
  by_cases h : n < 10
  · have d1 : decide ((n : Int) < 10) = true := by simp; omega
    have d2 : decide (n < 10) = true := by simpa using h
    have hrn : r = n := by omega
    have HD := Lib.hid (St.dec_small h)
    rw [← hrn, hdg] at HD
    have HNR := Lib.hid hrn
    clear h ih hrn hdg
    go_enter Tryz.func60, Tryz.ntmps60
    go_wp2
    go_ret
    refine ⟨?_, rfl⟩
    rw [show Lib.decDigits n = Lib.decDigits r from by rw [HNR.out], HD.out]
    exact congrArg (fun s => Ending.returned (.string s)) HC.out
  · have d1 : decide ((n : Int) < 10) = false := by simp; omega
    have d2 : decide (n < 10) = false := by simpa using h
    have HD := Lib.hid (St.dec_big h)
    rw [hq, hr, hdg] at HD
    have hl := St.dec20 (u := q) (by omega)
    have HQ := Lib.hid (ih q (by omega) (by omega))
    obtain ⟨D, hD⟩ : ∃ D, Lib.decDigits q = D := ⟨_, rfl⟩
    rw [hD] at HD HQ hl
    have x5 : ¬ 9223372036854775807 < D.length + 1 := by omega
    have HE := Lib.hid (cat2 D [dg])
    clear ih h hn hD hq hr hdg
    go_enter Tryz.func60, Tryz.ntmps60
    go_wp2_with (first | (go_at_call 60; with_reducible refine (HQ.out _).mono ?_; rintro e w1 ⟨rfl, rfl⟩; rw [HC.out]))
    go_ret
    refine ⟨?_, rfl⟩
    rw [HD.out]
    exact congrArg (fun s => Ending.returned (.string s)) HE.out
set_option maxHeartbeats 4000000 in
set_option maxRecDepth 100000 in
theorem rnum_any (k : Int) (hk : InR k) (w : World) : Calls Tryz.prog 25 #[.int .i64 k] w fun e w' => e = .returned (.string ⟨(Lib.itoa k).toArray⟩) ∧ w = w' := by
  obtain ⟨h0, h1⟩ := hk
  unfold Lib.itoa
  by_cases h : k < 0
  · rw [if_pos h]
    have d1 : decide (k < 0) = true := by simpa using h
    obtain ⟨m, hm⟩ : ∃ m, k.natAbs = m := ⟨_, rfl⟩
    rw [hm]
    have u1 : IntKind.u64.wrap k = 18446744073709551616 - (m : Int) := by rw [IntKind.wrap_u64]; omega
    have u2 : IntKind.u64.wrap (0 - (18446744073709551616 - (m : Int))) = (m : Int) := by rw [IntKind.wrap_u64]; omega
    have u4 : IntKind.u64.wrap (-(18446744073709551616 - (m : Int))) = (m : Int) := by rw [IntKind.wrap_u64]; omega
    have u3 : IntKind.u64.wrap ((m : Int) - 18446744073709551616) = (m : Int) := by rw [IntKind.wrap_u64]; omega
    have hl := St.dec20 (u := m) (by omega)
    have x5 : ¬ 9223372036854775807 < 1 + (Lib.decDigits m).length := by omega
    have HN := Lib.hid (rnat_any m (by omega))
    have E1 := Lib.hid (cat2 [45] (Lib.decDigits m))
    clear h h0 h1 hm
    go_enter Tryz.func25, Tryz.ntmps25
    go_wp2_with (go_at_call 60; refine (HN.out _).mono ?_; rintro e w1 ⟨rfl, rfl⟩)
    go_ret
    exact ⟨congrArg (fun s => Ending.returned (.string s)) E1.out, rfl⟩
  · rw [if_neg h]
    have d1 : decide (k < 0) = false := by simpa using h
    obtain ⟨m, rfl⟩ : ∃ m : Nat, k = (m : Int) := ⟨k.toNat, by omega⟩
    rw [Int.toNat_natCast]
    have u1 : IntKind.u64.wrap (m : Int) = (m : Int) := by rw [IntKind.wrap_u64]; omega
    have HN := Lib.hid (rnat_any m (by omega))
    clear h h0 h1
    go_enter Tryz.func25, Tryz.ntmps25
    go_wp2_with (go_at_call 60; refine (HN.out _).mono ?_; rintro e w1 ⟨rfl, rfl⟩)
    go_ret
    exact ⟨rfl, rfl⟩
theorem rfield_any (label : List UInt8) (hl : label.length ≤ 1000) (z : Int) (hz : InR z) (w : World) : Calls Tryz.prog 62 #[.string ⟨label.toArray⟩, .int .i64 z] w fun e w' => e = .returned (.string ⟨(St.rfield label z).toArray⟩) ∧ w = w' := by
  by_cases h0 : z = 0
  · subst h0
    go_enter Tryz.func62, Tryz.ntmps62
    go_wp2
    go_ret
    exact ⟨rfl, rfl⟩
  · have hx : St.rfield label z = 32 :: label ++ (32 :: Lib.itoa z) := if_neg h0
    have HX := Lib.hid hx
    have d0 : (z == 0) = false := by simpa using h0
    have hil := St.itoa_len hz
    have HI := Lib.hid (rnum_any z hz w)
    obtain ⟨s, hs⟩ : ∃ s, Lib.itoa z = s := ⟨_, rfl⟩
    rw [hs] at hil HI HX
    have x4 : ¬ 9223372036854775807 < 1 + label.length := by omega
    have x5 : ¬ 9223372036854775807 < 1 + label.length + 1 := by omega
    have x6 : ¬ 9223372036854775807 < 1 + label.length + 1 + s.length := by omega
    have e3 : (ByteArray.mk #[32] ++ ByteArray.mk label.toArray ++ ByteArray.mk #[32] ++ ByteArray.mk s.toArray) = ByteArray.mk (32 :: label ++ (32 :: s)).toArray := by apply ByteArray.ext; simp
    have HE := Lib.hid e3
    clear hx hs e3 hz
    go_enter Tryz.func62, Tryz.ntmps62
    go_wp2_with (go_at_call 25; refine HI.out.mono ?_; rintro e w1 ⟨rfl, rfl⟩)
    go_ret
    refine ⟨?_, rfl⟩
    rw [HX.out]
    exact congrArg (fun s => Ending.returned (.string s)) HE.out
set_option maxHeartbeats 4000000 in
set_option maxRecDepth 100000 in
theorem rlist_any (label : List UInt8) (hlb : label.length ≤ 1000) (A1 : Option Addr) (c1 n1 : Nat) (l : List Int) (hn : l.length = n1) (hl : n1 ≤ 100000) (hz : ∀ z ∈ l, InR z) (w : World) (h1 : RdS w w.heap.size A1 1 encZ l) :
    Calls Tryz.prog 63 #[.string ⟨label.toArray⟩, .slice A1 n1 c1] w fun e w' => e = .returned (.string ⟨(St.rlist label l).toArray⟩) ∧ w = w' := by
  subst hn
  by_cases h0 : l = []
  · subst h0
    go_enter Tryz.func63, Tryz.ntmps63
    go_wp2
    go_ret
    exact ⟨rfl, rfl⟩
  · have hx : St.rlist label l = 32 :: label ++ St.sp (l.map Lib.itoa) := if_neg h0
    have HX := Lib.hid hx
    have hp : 0 < l.length := List.length_pos_iff.2 h0
    have d0 : ((l.length : Int) == 0) = false := by simp; omega
    have d1 : (l.length == 0) = false := by simp; omega
    have HZ := Lib.hid hz
    have x4 : ¬ 9223372036854775807 < 1 + label.length := by omega
    have HE0 : Hid (ByteArray.mk #[32] ++ ByteArray.mk label.toArray = ByteArray.mk (32 :: label ++ St.sp ((l.take 0).map Lib.itoa)).toArray) := Lib.hid (by apply ByteArray.ext; simp [St.sp])
    clear hx hz
    go_enter Tryz.func63, Tryz.ntmps63
    go_wp2
    go_loopw [5, 6] (fun sv iv wr => ∃ i : Nat, iv = .int .i64 (i : Int) ∧ i ≤ l.length ∧ sv = .string ⟨(32 :: label ++ St.sp ((l.take i).map Lib.itoa)).toArray⟩ ∧ wr = w) (fun _ iv _ => l.length - (intOf iv).toNat)
    case atStart => exact ⟨0, rfl, by omega, congrArg Value.string HE0.out, rfl⟩
    case round =>
      obtain ⟨i, rfl, hi, rfl, rfl⟩ := hrel
      by_cases hia : i < l.length
      · obtain ⟨ga, oa, rfl, hb1, e1⟩ := h1.get hia
        have ht2 : St.sp ((l.take (i + 1)).map Lib.itoa) = St.sp ((l.take i).map Lib.itoa) ++ (32 :: Lib.itoa l[i]) := by rw [List.take_succ_eq_append_getElem hia, List.map_append, St.sp_app]; simp [St.sp]
        have hsl := St.sp_len (l := l.take i) fun z hz => HZ.out z (List.mem_of_mem_take hz)
        rw [List.length_take] at hsl
        have hss := HZ.out l[i] (List.getElem_mem _)
        have f0 := e1 0 _ rfl
        rw [Nat.add_zero, Nat.mul_one] at f0
        obtain ⟨z, hv⟩ : ∃ v, l[i] = v := ⟨_, rfl⟩
        rw [hv] at f0 ht2 hss
        have x0 : (i : Int) < (l.length : Int) := by omega
        have x2 : (0 : Int) ≤ (i : Int) := by omega
        have hil := St.itoa_len hss
        have HI := Lib.hid (fun W => rnum_any z hss W)
        obtain ⟨s, hs⟩ : ∃ s, Lib.itoa z = s := ⟨_, rfl⟩
        simp only [hs] at HI ht2 hil
        obtain ⟨T, hT⟩ : ∃ T, 32 :: label ++ St.sp ((l.take i).map Lib.itoa) = T := ⟨_, rfl⟩
        have hTl : T.length ≤ 3000000 := by rw [← hT, List.length_append, List.length_cons]; omega
        have ht3 : 32 :: label ++ St.sp ((l.take (i + 1)).map Lib.itoa) = T ++ [32] ++ s := by rw [ht2, ← hT]; simp
        rw [hT]
        have x5 : ¬ 9223372036854775807 < T.length + 1 := by omega
        have x6 : ¬ 9223372036854775807 < T.length + 1 + s.length := by omega
        have HE : Hid (ByteArray.mk T.toArray ++ ByteArray.mk #[32] ++ ByteArray.mk s.toArray = ByteArray.mk (T ++ [32] ++ s).toArray) := Lib.hid (by apply ByteArray.ext; simp)
        have HT := Lib.hid ht3
        clear hs ht2 ht3 hT hv e1 hss hsl
        go_wp2_with (go_at_call 25; refine (HI.out _).mono ?_; rintro e w1 ⟨rfl, rfl⟩)
        go_roundw
        case rel => exact ⟨i + 1, by go_num, by omega, by rw [HT.out]; exact congrArg Value.string HE.out, by trivial⟩
        case measure => simp [intOf]; omega
      · have hi2 : i = l.length := by omega
        subst hi2
        rw [List.take_length]
        go_wp2
        go_ret
        exact ⟨by rw [HX.out]; rfl, rfl⟩
set_option maxRecDepth 100000 in
theorem rkinds_any (w : World) : Calls Tryz.prog 42 #[] w fun e w' => (∃ A, e = .returned (.slice A 20 20) ∧ RdS w' w'.heap.size A 1 encS St.kindW) ∧ Below w.heap.size w w' := by
  go_enter Tryz.func42, Tryz.ntmps42
  go_wp2
  go_ret
  exact ⟨⟨_, rfl, block_rds encS_len (by kernel_rfl) (heap_alloc_new w _)⟩, (Below.refl _ _).alloc (Nat.le_refl _) _⟩
set_option maxRecDepth 100000 in
theorem rends_any (w : World) : Calls Tryz.prog 44 #[] w fun e w' => (∃ A, e = .returned (.slice A 5 5) ∧ RdS w' w'.heap.size A 1 encS St.endW) ∧ Below w.heap.size w w' := by
  go_enter Tryz.func44, Tryz.ntmps44
  go_wp2
  go_ret
  exact ⟨⟨_, rfl, block_rds encS_len (by kernel_rfl) (heap_alloc_new w _)⟩, (Below.refl _ _).alloc (Nat.le_refl _) _⟩
end Go.Proofs.YtmhmpobjjhbklaaGreatDoor
