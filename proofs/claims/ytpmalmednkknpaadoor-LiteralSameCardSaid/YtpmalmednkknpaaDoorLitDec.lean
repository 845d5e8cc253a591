/-
  Plain: the first rune of the encoding of a rune is that rune.
-/
import Derived.Test.YtpmalmednkknpaaDoorLitU
import Derived.Lib.OthersKept
set_option linter.unusedVariables false
namespace Go.Proofs.YtpmalmednkknpaaDoor
open Go.RowKit

theorem dec1 (a : UInt8) (h : a.toNat < 128) : Utf8.decode ⟨#[a]⟩ 0 = (a.toNat, 1) := by
  simp [Utf8.decode, ByteArray.get!, h]
theorem dec2 (a b : UInt8) (c : Nat) (h1 : a.toNat / 32 = 6) (h2 : b.toNat / 64 = 2) (hc : a.toNat % 32 * 64 + b.toNat % 64 = c) (h3 : 128 ≤ c) : Utf8.decode ⟨#[a, b]⟩ 0 = (c, 2) := by
  have h0 : ¬ a.toNat < 128 := by omega
  simp [Utf8.decode, ByteArray.get!, ByteArray.size, h0, h1, h2, hc, h3]
theorem dec3 (a b d : UInt8) (c : Nat) (h1 : a.toNat / 16 = 14) (h2 : b.toNat / 64 = 2) (h2' : d.toNat / 64 = 2) (hc : a.toNat % 16 * 4096 + b.toNat % 64 * 64 + d.toNat % 64 = c) (h3 : 2048 ≤ c) (hv : Utf8.valid (c : Int) = true) : Utf8.decode ⟨#[a, b, d]⟩ 0 = (c, 3) := by
  have h0 : ¬ a.toNat < 128 := by omega
  have h0' : ¬ a.toNat / 32 = 6 := by omega
  simp [Utf8.decode, ByteArray.get!, ByteArray.size, h0, h0', h1, h2, h2', hc, h3, hv]
theorem dec4 (a b d e : UInt8) (c : Nat) (h1 : a.toNat / 8 = 30) (h2 : b.toNat / 64 = 2) (h2' : d.toNat / 64 = 2) (h2'' : e.toNat / 64 = 2) (hc : a.toNat % 8 * 262144 + b.toNat % 64 * 4096 + d.toNat % 64 * 64 + e.toNat % 64 = c) (h3 : 65536 ≤ c) (hv : Utf8.valid (c : Int) = true) : Utf8.decode ⟨#[a, b, d, e]⟩ 0 = (c, 4) := by
  have h0 : ¬ a.toNat < 128 := by omega
  have h0' : ¬ a.toNat / 32 = 6 := by omega
  have h0'' : ¬ a.toNat / 16 = 14 := by omega
  simp [Utf8.decode, ByteArray.get!, ByteArray.size, h0, h0', h0'', h1, h2, h2', h2'', hc, h3, hv]
theorem u8n (x : Int) (h0 : 0 ≤ x) (h1 : x < 256) : (x.toNat.toUInt8).toNat = x.toNat := by
  simp; omega
theorem decode_enc (n : Int) (h : Lib.validRune n = true) : Utf8.decode ⟨(Lib.encodeRune n).toArray⟩ 0 = (n.toNat, (Lib.encodeRune n).length) := by
  have hv : (0 ≤ n ∧ n < 55296) ∨ (57343 < n ∧ n ≤ 1114111) := by simpa [Lib.validRune] using h
  have hval : Utf8.valid (n.toNat : Int) = true := by
    unfold Utf8.valid
    have e : ((n.toNat : Nat) : Int) = n := by omega
    rw [e]
    simp
    omega
  unfold Lib.encodeRune
  by_cases h1 : n < 128
  · rw [Lib.encodeRuneZ_one (by omega) (by omega)]
    simp only [List.map_cons, List.map_nil, List.length_cons, List.length_nil]
    rw [show ([n.toNat.toUInt8] : List UInt8).toArray = #[n.toNat.toUInt8] from rfl, dec1 _ (by rw [u8n _ (by omega) (by omega)]; omega), u8n _ (by omega) (by omega)]
  · by_cases h2 : n < 2048
    · rw [Lib.encodeRuneZ_two (by omega) (by omega)]
      simp only [List.map_cons, List.map_nil, List.length_cons, List.length_nil]
      have a1 := u8n (192 + n / 64) (by omega) (by omega)
      have a2 := u8n (128 + n % 64) (by omega) (by omega)
      exact dec2 _ _ _ (by omega) (by omega) (by omega) (by omega)
    · by_cases h3 : n < 65536
      · rw [Lib.encodeRuneZ_three (by omega)]
        simp only [List.map_cons, List.map_nil, List.length_cons, List.length_nil]
        have a1 := u8n (224 + n / 4096) (by omega) (by omega)
        have a2 := u8n (128 + n / 64 % 64) (by omega) (by omega)
        have a3 := u8n (128 + n % 64) (by omega) (by omega)
        exact dec3 _ _ _ _ (by omega) (by omega) (by omega) (by omega) (by omega) hval
      · rw [Lib.encodeRuneZ_four (by omega) (by omega)]
        simp only [List.map_cons, List.map_nil, List.length_cons, List.length_nil]
        have a1 := u8n (240 + n / 262144) (by omega) (by omega)
        have a2 := u8n (128 + n / 4096 % 64) (by omega) (by omega)
        have a3 := u8n (128 + n / 64 % 64) (by omega) (by omega)
        have a4 := u8n (128 + n % 64) (by omega) (by omega)
        exact dec4 _ _ _ _ _ (by omega) (by omega) (by omega) (by omega) (by omega) (by omega) hval
end Go.Proofs.YtpmalmednkknpaaDoor
