/-
  The law Back of the literals: the walk.
-/
import Derived.Test.YtpmalmednkknpaaDoorLitAlive
import Derived.Test.YtpmalmednkknpaaDoorLitP2
set_option linter.unusedVariables false
namespace Go.Proofs.YtpmalmednkknpaaDoor
open Go.RowKit
attribute [local go_sem] ByteArray.extract_mk

theorem shl_shr (n b : Nat) (hn : n < 18446744073709551616) (h1 : 1 ≤ b) (h2 : b ≤ 64) : n * 2 ^ (64 - b) % 18446744073709551616 / 2 ^ (64 - b) = n % 2 ^ b := by
  have hd : 18446744073709551616 = 2 ^ (64 - b) * 2 ^ b := by rw [← Nat.pow_add, show 64 - b + b = 64 from by omega]
  rw [hd, Nat.mul_comm n, Nat.mul_mod_mul_left, Nat.mul_div_cancel_left _ (Nat.two_pow_pos _)]
theorem shl_shr_u (n b : Nat) (hn : n < 18446744073709551616) (h1 : 1 ≤ b) (h2 : b ≤ 64) : IntKind.u64.wrap ((n : Int) * 2 ^ (64 - b)) / 2 ^ (64 - b) = (n : Int) % 2 ^ b := by
  have := shl_shr n b hn h1 h2
  rw [IntKind.wrap_u64]
  have e : (n : Int) * 2 ^ (64 - b) % 18446744073709551616 / 2 ^ (64 - b) = ((n * 2 ^ (64 - b) % 18446744073709551616 / 2 ^ (64 - b) : Nat) : Int) := by simp
  rw [e, this]
  simp

set_option maxHeartbeats 1000000 in
set_option maxRecDepth 100000 in
theorem back_walk (B : Option Addr) (bc : Nat) (b : List UInt8) (n : Nat) (hn : n < 18446744073709551616) (bits : Int) (w : World) (ht : Tab w) (hr : RdB w w.heap.size B b) (hm2 : b.length ≤ 9223372036854775807) :
    Calls Tryd.prog 8 #[.slice B b.length bc, .int .u64 (n : Int), .int .i64 bits] w fun e w' => e = .returned (.bool true) ∧ Below w.heap.size w w' := by
  have HA : Hid (∀ W, Tab W → Calls Tryd.prog 11 #[] W fun e w' => e = .returned (.bool true) ∧ Below W.heap.size W w') := Lib.hid (fun W h => alive_any W h)
  by_cases hb : 300 < b.length
  · have i1 : 300 < (b.length : Int) := by omega
    go_enter Tryd.func8, Tryd.ntmps8
    go_wp2_with (first
      | (go_at_call 11; refine (HA.out _ ht).mono ?_; rintro e w2 ⟨rfl, hb2⟩))
    go_ret
    exact ⟨rfl, hb2⟩
  have i1 : (b.length : Int) ≤ 300 := by omega
  by_cases hb1 : bits < 1
  · have d1 : decide (bits < 1) = true := by simpa using hb1
    go_enter Tryd.func8, Tryd.ntmps8
    go_wp2_with (first
      | (go_at_call 11; refine (HA.out _ ht).mono ?_; rintro e w2 ⟨rfl, hb2⟩))
    go_ret
    exact ⟨rfl, hb2⟩
  have d1 : decide (bits < 1) = false := by simpa using hb1
  by_cases hb2 : 64 < bits
  · have d2 : decide (64 < bits) = true := by simpa using hb2
    go_enter Tryd.func8, Tryd.ntmps8
    go_wp2_with (first
      | (go_at_call 11; refine (HA.out _ ht).mono ?_; rintro e w2 ⟨rfl, hb2⟩))
    go_ret
    exact ⟨rfl, hb2⟩
  have d2 : decide (64 < bits) = false := by simpa using hb2
  have H1 := Lib.hid (quote_any B bc b w hr (by omega))
  have hQl : (Ltr.quote b).length ≤ 902 := by have := Ltr.quoteB_le b; simp [Ltr.quote]; omega
  have hQ2 : 2 ≤ (Ltr.quote b).length := by simp [Ltr.quote]
  have H2 : Hid (∀ W, Calls Tryd.prog 12 #[.string ⟨(Ltr.quote b).toArray⟩] W (RetUnq (b, 0) W)) := Lib.hid (fun W => by have := unquote_any (Ltr.quote b) W (by omega); rw [Ltr.unquote_quote] at this; exact this)
  have H3 : Hid (∀ W, Tab W → Calls Tryd.prog 20 #[.int .u64 (n : Int), .int .i64 bits] W fun e w' => e = .returned (.string ⟨(Ltr.textF n bits).toArray⟩) ∧ Below W.heap.size W w') := Lib.hid (fun W h => text_any n hn bits W h)
  have hTl : (Ltr.textF n bits).length ≤ 1000000 := by
    unfold Ltr.textF
    rw [if_neg (by omega)]
    have hs := Ltr.sx_bounds n bits.toNat (by omega) (by omega)
    unfold Lib.itoa
    split
    · have := dec_len 19 (Ltr.sx n bits.toNat).natAbs (by omega)
      simp only [List.length_cons]; omega
    · have := dec_len 19 (Ltr.sx n bits.toNat).toNat (by omega)
      omega
  have H4 : Hid (∀ W, Calls Tryd.prog 16 #[.string ⟨(Ltr.textF n bits).toArray⟩, .int .i64 bits] W (RetN (((n % 2 ^ bits.toNat : Nat) : Int), 0) W)) := Lib.hid (fun W => by have := num_any (Ltr.textF n bits) bits W hTl; rw [Ltr.num_text n bits (by omega) (by omega)] at this; exact this)
  have hfirst : ∀ h, (ByteArray.mk (Ltr.quote b).toArray)[0]'h = 34 := fun h => rfl
  have hlastN : ∀ k (h : k < (Ltr.quote b).length), k = (Ltr.quote b).length - 1 → (Ltr.quote b)[k] = 34 := by
    intro k h hk
    subst hk
    have : (Ltr.quote b) = (34 :: Ltr.quoteB b) ++ [34] := by simp [Ltr.quote]
    simp only [this, List.length_append, List.length_singleton]
    rw [List.getElem_append_right (by simp)]
    simp
  have hmid : ∀ k (h : k < (Ltr.quote b).length), 1 ≤ k → k < (Ltr.quote b).length - 1 → 32 ≤ ((Ltr.quote b)[k]).toNat ∧ ((Ltr.quote b)[k]).toNat ≤ 126 ∧ (Ltr.quote b)[k] ≠ 34 := by
    intro k h h1 h2
    apply Ltr.quoteB_in b
    obtain ⟨j, rfl⟩ : ∃ j, k = j + 1 := ⟨k - 1, by omega⟩
    have hj : j < (Ltr.quoteB b).length := by simp [Ltr.quote] at h2; omega
    have : (Ltr.quote b)[j + 1] = (Ltr.quoteB b)[j] := by
      simp only [Ltr.quote, List.getElem_cons_succ]
      exact List.getElem_append_left hj
    rw [this]
    exact List.getElem_mem hj
  obtain ⟨Q, hQ⟩ : ∃ q, Ltr.quote b = q := ⟨_, rfl⟩
  obtain ⟨T, hT⟩ : ∃ q, Ltr.textF n bits = q := ⟨_, rfl⟩
  simp only [hQ] at H1 H2 hQl hQ2 hfirst hlastN hmid
  simp only [hT] at H3 H4 hTl
  have HM := Lib.hid hmid
  have hl1 := hlastN (Q.length - 1) (by omega) rfl
  have hlast : ∀ h, (ByteArray.mk Q.toArray)[Q.length - 1]'h = 34 := fun h => hl1
  have q2 : (2 : Int) ≤ (Q.length : Int) := by omega
  obtain ⟨bn, rfl⟩ := Int.eq_ofNat_of_zero_le (by omega : 0 ≤ bits)
  simp only [Int.toNat_natCast] at H4
  clear hmid hlastN hl1
  go_enter Tryd.func8, Tryd.ntmps8
  go_wp2_with (first
    | (go_at_call 14; refine H1.out.mono ?_; rintro e w1 ⟨rfl, hb1'⟩))
  have hs1 := hb1'.size
  go_loopw [8] (fun iv wr => ∃ i : Nat, 1 ≤ i ∧ i ≤ Q.length - 1 ∧ iv = .int .i64 i ∧ wr = w1) (fun iv _ => Q.length - (intOf iv).toNat)
  case atStart => exact ⟨1, by omega, by omega, rfl, rfl⟩
  case round =>
    clear hfirst hlast
    obtain ⟨i, hi0, hi1, rfl, rfl⟩ := hrel
    have p0 : (0 : Int) ≤ (i : Int) := by omega
    by_cases hil : i < Q.length - 1
    · have i2 : (i : Int) < (Q.length : Int) - 1 := by omega
      have i3 : (i : Int) < (Q.length : Int) := by omega
      obtain ⟨m1, m2, m3⟩ := HM.out i (by omega) hi0 hil
      have hbk := lba_get Q i (by omega) _ rfl
      obtain ⟨c, hc⟩ : ∃ c, Q[i]'(by omega) = c := ⟨_, rfl⟩
      rw [hc] at hbk m1 m2 m3
      have s1 := lcne c 34 (by omega) m3
      simp only [Int.cast_ofNat_Int] at s1
      have e1 : decide ((c.toNat : Int) < 32) = false := by simp; omega
      have e2 : decide (126 < (c.toNat : Int)) = false := by simp; omega
      clear hc m3
      go_wp2_with fail
      go_roundw
      case rel => exact ⟨i + 1, by omega, by omega, by go_num, trivial⟩
      case measure => simp [intOf]; omega
    · have i2 : (Q.length : Int) - 1 ≤ (i : Int) := by omega
      have k2 := shl_shr_u n bn hn (by omega) (by omega)
      have k1 : IntKind.i64.wrap (64 - (bn : Int)) = 64 - (bn : Int) := by rw [IntKind.wrap_i64]; omega
      go_wp2_with (first
        | (go_at_call 12; refine (H2.out _).mono ?_; rintro e2 w2 ⟨A2, m2, c2, rfl, rfl, hr2, hb2⟩; have hs2 := hb2.size; have htw : Tab w2 := ht.below (hb1'.trans (hb2.mono hs1)); dsimp only)
        | (go_at_call 20; refine (H3.out _ htw).mono ?_; rintro e3 w3 ⟨rfl, hb3⟩; have hs3 := hb3.size)
        | (go_at_call 16; refine (H4.out _).mono ?_; rintro e4 w4 ⟨rfl, q4, rfl⟩; have hv1 := str_n (W := w3.drewN q4) ((hr2.below hb3).drewN q4) rfl c2; have hv2 := str_n (W := w3.drewN q4) ((hr.below ((hb1'.trans (hb2.mono hs1)).trans (hb3.mono (by omega)))).drewN q4) rfl bc)
        | (go_at_call 11; refine (HA.out _ ((htw.below hb3).drewN _)).mono ?_; rintro e5 w5 ⟨rfl, hb5⟩))
      go_ret
      exact ⟨rfl, ((hb1'.trans (hb2.mono hs1)).trans (hb3.mono (by omega))).trans (((below_drewN w3 _).trans hb5).mono (by omega))⟩
end Go.Proofs.YtpmalmednkknpaaDoor
