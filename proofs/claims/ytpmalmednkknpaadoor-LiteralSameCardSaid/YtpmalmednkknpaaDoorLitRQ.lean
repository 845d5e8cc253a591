/-
  The reference's Quote.
-/
import Derived.Test.YtpmalmednkknpaaDoorLitQ
import Derived.Deep.QuietTactic
import Derived.BigQuiet
set_option linter.unusedVariables false
namespace Go.Proofs.YtpmalmednkknpaaDoor
open Go.RowKit
attribute [local go_sem] ByteArray.extract_mk

theorem ba_app (S T : List UInt8) : (ByteArray.mk S.toArray) ++ (ByteArray.mk T.toArray) = ⟨(S ++ T).toArray⟩ := by
  apply ByteArray.ext
  simp
theorem hex_cut : ∀ n : Fin 16, List.take 1 (List.drop n.val [(48 : UInt8), 49, 50, 51, 52, 53, 54, 55, 56, 57, 97, 98, 99, 100, 101, 102]) = [Ltr.hexc n.val] := by decide
theorem hex_str (S : List UInt8) (x : UInt8) : (ByteArray.mk S.toArray) ++ (ByteArray.mk #[92]) ++ (ByteArray.mk (List.take 1 (List.drop (x.toNat / 16) [48, 49, 50, 51, 52, 53, 54, 55, 56, 57, 97, 98, 99, 100, 101, 102])).toArray) ++ (ByteArray.mk (List.take 1 (List.drop (x.toNat % 16) [48, 49, 50, 51, 52, 53, 54, 55, 56, 57, 97, 98, 99, 100, 101, 102])).toArray) = ⟨(S ++ [92, Ltr.hexc (x.toNat / 16), Ltr.hexc (x.toNat % 16)]).toArray⟩ := by
  have hx := x.toNat_lt
  have k1 : x.toNat / 16 < 16 := by omega
  have k2 : x.toNat % 16 < 16 := by omega
  have a1 := hex_cut ⟨_, k1⟩
  have a2 := hex_cut ⟨_, k2⟩
  simp only at a1 a2
  rw [a1, a2]
  apply ByteArray.ext
  simp
theorem encode_ascii (x : UInt8) (h : x.toNat < 128) : Utf8.encode (x.toNat : Int) = ⟨#[x]⟩ := by
  unfold Utf8.encode Utf8.valid
  have h1 : (decide ((0 : Int) ≤ (x.toNat : Int)) && decide ((x.toNat : Int) < 55296)) = true := by simp; omega
  simp only [h1, Bool.true_or, if_true]
  rw [if_pos (by omega)]
  simp
set_option maxHeartbeats 2000000 in
set_option maxRecDepth 100000 in
theorem rquote_any (A : Option Addr) (c : Nat) (b : List UInt8) (w : World) (hr : RdB w w.heap.size A b) (hl : b.length ≤ 1000000) :
    Calls Tryd.prog 15 #[.slice A b.length c] w fun e w' => e = .returned (.string ⟨(Ltr.quote b).toArray⟩) ∧ ∃ q, w' = w.drewN q := by
  go_enter Tryd.func15, Tryd.ntmps15
  go_wp2_with fail
  go_loopw [3, 4] (fun v i wr => ∃ (k q : Nat) (S : List UInt8), k ≤ b.length ∧ i = .int .i64 k ∧ v = .string ⟨S.toArray⟩ ∧ S = 34 :: Ltr.quoteB (b.take k) ∧ wr = w.drewN q) (fun _ i _ => b.length - (intOf i).toNat)
  case atStart => exact ⟨0, 0, _, by omega, rfl, rfl, rfl, rfl⟩
  case round =>
    obtain ⟨k, q, S, hk, rfl, rfl, hS, rfl⟩ := hrel
    have hq := Ltr.quoteB_le (b.take k)
    have hSl : S.length ≤ 3000001 := by rw [hS]; simp at hq ⊢; omega
    have HS := Lib.hid hS
    clear hS hq
    by_cases hkl : k < b.length
    · obtain ⟨ad, rfl, hblk, hcell⟩ := hr.at_ hkl
      have HT := Lib.hid (Ltr.quoteB_take b k hkl)
      have k0 : (0 : Int) ≤ (k : Int) := Int.natCast_nonneg _
      have k1 : (k : Int) < (b.length : Int) := by omega
      obtain ⟨x, hx⟩ : ∃ x, b[k] = x := ⟨_, rfl⟩
      rw [hx] at hcell HT
      have hx256 := x.toNat_lt
      clear hx
      cases hp : Ltr.plainB x with
      | true =>
        have HQ := Lib.hid (Ltr.q1_plain hp)
        obtain ⟨p1, p2, p3, p4⟩ := Ltr.plainB_yes hp
        have d1 : decide ((32 : Int) ≤ (x.toNat : Int)) = true := by simp; omega
        have d2 : decide ((x.toNat : Int) ≤ 126) = true := by simp; omega
        have d3 := lcne' x 34 (by omega) p3
        have d4 := lcne' x 92 (by omega) p4
        simp only [Int.cast_ofNat_Int] at d3 d4
        have he := encode_ascii x (by omega)
        clear hp p3 p4
        go_wp2_with fail
        go_roundw
        case rel => exact ⟨k + 1, q, S ++ [x], by omega, by go_num, by exact congrArg Value.string (ba_app S [x]), by rw [HT.out, HQ.out, HS.out]; rfl, rfl⟩
        case measure => simp [intOf]; omega
      | false =>
        have HQ := Lib.hid (Ltr.q1_hex hp)
        have ways : (decide ((32 : Int) ≤ (x.toNat : Int)) = false) ∨ (decide ((32 : Int) ≤ (x.toNat : Int)) = true ∧ decide ((x.toNat : Int) ≤ 126) = false) ∨ (decide ((32 : Int) ≤ (x.toNat : Int)) = true ∧ decide ((x.toNat : Int) ≤ 126) = true ∧ ((x.toNat : Int) != 34) = false) ∨ (decide ((32 : Int) ≤ (x.toNat : Int)) = true ∧ decide ((x.toNat : Int) ≤ 126) = true ∧ ((x.toNat : Int) != 34) = true ∧ ((x.toNat : Int) != 92) = false) := by
          rcases Ltr.plainB_no hp with h | ⟨h, h'⟩ | h | h
          · exact .inl (by simp; omega)
          · exact .inr (.inl ⟨by simp; omega, by simp; omega⟩)
          · subst h; exact .inr (.inr (.inl ⟨by decide, by decide, by decide⟩))
          · subst h; exact .inr (.inr (.inr ⟨by decide, by decide, by decide, by decide⟩))
        clear hp
        have q1 : (0 : Int) ≤ (x.toNat : Int) / 16 := by omega
        have q2 : (x.toNat : Int) / 16 < 16 := by omega
        have q3 : (0 : Int) ≤ (x.toNat : Int) % 16 := by omega
        have q4 : (x.toNat : Int) % 16 < 16 := by omega
        have w1 : IntKind.u8.wrap ((x.toNat : Int) / 16 + 1) = (x.toNat : Int) / 16 + 1 := by rw [IntKind.wrap_u8]; omega
        have w2 : IntKind.u8.wrap ((x.toNat : Int) % 16 + 1) = (x.toNat : Int) % 16 + 1 := by rw [IntKind.wrap_u8]; omega
        rcases ways with d1 | ⟨d1, d2⟩ | ⟨d1, d2, d3⟩ | ⟨d1, d2, d3, d4⟩
        all_goals
          go_wp2_with fail
          go_quiet (fail)
          go_wp2
          go_roundw
          case rel => exact ⟨k + 1, _, S ++ [92, Ltr.hexc (x.toNat / 16), Ltr.hexc (x.toNat % 16)], by omega, by go_num, congrArg Value.string (hex_str S x), by rw [HT.out, HQ.out, HS.out]; rfl, rfl⟩
          case measure => simp [intOf]; omega
    · obtain rfl : k = b.length := by omega
      rw [List.take_length] at HS
      go_wp2_with fail
      go_ret
      rw [HS.out]
      exact ⟨congrArg (fun s => Ending.returned (Value.string s)) ((ba_app (34 :: Ltr.quoteB b) [34]).trans (by simp [Ltr.quote])), q, rfl⟩
end Go.Proofs.YtpmalmednkknpaaDoor
