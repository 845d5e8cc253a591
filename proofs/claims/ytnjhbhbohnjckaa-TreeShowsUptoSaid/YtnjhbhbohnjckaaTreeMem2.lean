/-
  Parts of a slice of nodes.
-/
import Derived.Test.YtnjhbhbohnjckaaTreeMem
set_option linter.unusedVariables false
namespace Go.Proofs.Ytnjhbhbohnjckaa
open Go.RowKit
open Tree (Tr)

theorem NodesAt.take {w : World} {S : Nat → Prop} {g : Nat} : ∀ {l : List Tr} {o : Nat} (k : Nat), NodesAt w S g o l → NodesAt w S g o (l.take k)
  | [], o, k, h => by rw [List.take_nil]; exact h
  | n :: l, o, 0, h => by rw [List.take_zero, NodesAt]; trivial
  | n :: l, o, k + 1, h => by
    rw [List.take_succ_cons]
    rw [NodesAt] at h ⊢
    exact ⟨h.1, NodesAt.take k h.2⟩
theorem NodesAt.drop {w : World} {S : Nat → Prop} {g : Nat} : ∀ {l : List Tr} {o : Nat} (k : Nat), NodesAt w S g o l → NodesAt w S g (o + k * 4) (l.drop k)
  | [], o, k, h => by rw [List.drop_nil, NodesAt]; trivial
  | n :: l, o, 0, h => by simpa using h
  | n :: l, o, k + 1, h => by
    rw [List.drop_succ_cons]
    rw [NodesAt] at h
    have := NodesAt.drop k h.2
    rw [show o + 4 + k * 4 = o + (k + 1) * 4 from by omega] at this
    exact this
theorem Lies.take {w : World} {S : Nat → Prop} {A : Option Addr} {l : List Tr} (k : Nat) (h : Lies w S A l) : Lies w S A (l.take k) := by
  rcases h with rfl | ⟨g, o, hA, hb, h⟩
  · exact .inl (List.take_nil)
  · exact .inr ⟨g, o, hA, hb, h.take k⟩
theorem Lies.drop {w : World} {S : Nat → Prop} {g o : Nat} {l : List Tr} (k : Nat) (h : Lies w S (some ⟨g, o, none⟩) l) : Lies w S (some ⟨g, o + k * 4, none⟩) (l.drop k) := by
  rcases h with rfl | ⟨g', o', hA, hb, h⟩
  · exact .inl (List.drop_nil)
  · injection hA with hA
    injection hA with h1 h2
    subst h1 h2
    exact .inr ⟨g, _, rfl, hb, h.drop k⟩
end Go.Proofs.Ytnjhbhbohnjckaa
