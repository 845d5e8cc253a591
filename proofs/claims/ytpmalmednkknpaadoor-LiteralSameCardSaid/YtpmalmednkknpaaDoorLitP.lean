/-
  Plain: string literals: quoting and reading back.
-/
import Derived.Test.YtpmalmednkknpaaDoorLitName
set_option linter.unusedVariables false
namespace Go.Proofs.YtpmalmednkknpaaDoor
namespace Ltr
/-- A hexadecimal digit. -/
def hexc (n : Nat) : UInt8 := if n < 10 then UInt8.ofNat (48 + n) else UInt8.ofNat (87 + n)
/-- A byte that stands for itself. -/
def plainB (x : UInt8) : Bool := decide (32 ≤ x.toNat) && decide (x.toNat < 127) && x != 34 && x != 92
def q1 (x : UInt8) : List UInt8 := if plainB x then [x] else [92, hexc (x.toNat / 16), hexc (x.toNat % 16)]
def quoteB (b : List UInt8) : List UInt8 := b.flatMap q1
def quote (b : List UInt8) : List UInt8 := 34 :: (quoteB b ++ [34])
theorem q1_le (x : UInt8) : (q1 x).length ≤ 3 := by unfold q1; split <;> simp
theorem quoteB_le (b : List UInt8) : (quoteB b).length ≤ 3 * b.length := by
  induction b with
  | nil => simp [quoteB]
  | cons x b ih => have := q1_le x; simp [quoteB] at ih ⊢; omega
theorem quoteB_snoc (b : List UInt8) (x : UInt8) : quoteB (b ++ [x]) = quoteB b ++ q1 x := by simp [quoteB]
theorem quoteB_take (b : List UInt8) (k : Nat) (h : k < b.length) : quoteB (b.take (k + 1)) = quoteB (b.take k) ++ q1 b[k] := by
  rw [List.take_succ_eq_append_getElem h, quoteB_snoc]
theorem q1_plain {x : UInt8} (h : plainB x = true) : q1 x = [x] := by unfold q1; rw [if_pos h]
theorem q1_hex {x : UInt8} (h : plainB x = false) : q1 x = [92, hexc (x.toNat / 16), hexc (x.toNat % 16)] := by unfold q1; rw [h]; simp
/-- The ways in which a byte does not stand for itself. -/
theorem plainB_no {x : UInt8} (h : plainB x = false) : x.toNat < 32 ∨ (32 ≤ x.toNat ∧ 127 ≤ x.toNat) ∨ x = 34 ∨ x = 92 := by
  unfold plainB at h
  by_cases h1 : 32 ≤ x.toNat
  · by_cases h2 : x.toNat < 127
    · by_cases h3 : x = 34
      · exact .inr (.inr (.inl h3))
      · by_cases h4 : x = 92
        · exact .inr (.inr (.inr h4))
        · simp [h1, h2, h3, h4] at h
    · exact .inr (.inl ⟨h1, by omega⟩)
  · exact .inl (by omega)
theorem plainB_yes {x : UInt8} (h : plainB x = true) : 32 ≤ x.toNat ∧ x.toNat < 127 ∧ x ≠ 34 ∧ x ≠ 92 := by
  unfold plainB at h
  simp at h
  exact ⟨h.1.1.1, h.1.1.2, h.1.2, h.2⟩
def hexes : List UInt8 := [48, 49, 50, 51, 52, 53, 54, 55, 56, 57, 97, 98, 99, 100, 101, 102]
theorem hexes_at : ∀ n : Fin 16, hexes[n.val]? = some (hexc n.val) := by decide
theorem hexb_at : ∀ (n : Fin 16) (h : n.val < (ByteArray.mk #[48, 49, 50, 51, 52, 53, 54, 55, 56, 57, 97, 98, 99, 100, 101, 102]).size), (ByteArray.mk #[48, 49, 50, 51, 52, 53, 54, 55, 56, 57, 97, 98, 99, 100, 101, 102])[n.val]'h = hexc n.val := by decide
theorem and15_fin : ∀ x : Fin 256, (x.val &&& 15) = x.val % 16 := by decide +kernel
end Ltr
end Go.Proofs.YtpmalmednkknpaaDoor
