/-
  Footprints of Readers, Writers and variables, pairwise apart.
-/
import Derived.Test.YtagcildoebicnaaBtAlive
set_option linter.unusedVariables false
set_option linter.unusedSimpArgs false
namespace Go.Proofs.Ytagcildoebicnaa
open Go.RowKit

def DJ (F G : Nat → Prop) : Prop := ∀ k, F k → G k → False
theorem DJ.symm {F G : Nat → Prop} (h : DJ F G) : DJ G F := fun k a b => h k b a
theorem DJ.fresh {F G : Nat → Prop} {N : Nat} (hF : ∀ k, F k → k < N) (hG : ∀ k, G k → N ≤ k) : DJ F G := fun k a b => by
  have := hF k a; have := hG k b; omega
theorem DJ.step {F F' G : Nat → Prop} {W W' : World} {B : Nat} (d : DJ F G) (t : Trn W W' B F F') (hlt : ∀ k, G k → k < W.heap.size) : DJ F' G := fun k a b => by
  rcases t.new k a with h | h
  · exact d k h b
  · have := hlt k b; omega
theorem Var.trn {w w' : World} {K B : Nat} {cs : Array Value} {t : TypeId} {F F' : Nat → Prop} (h : Var w K cs t) (T : Trn w w' B F F') (d : DJ F (· = K)) : Var w' K cs t :=
  (T.far K h.lt (fun hf => d K hf rfl)).trans h
theorem RdrAt.besideD {W W' : World} {B B' : Nat} {F F' : Nat → Prop} {q u : Value} {b : List UInt8} {s : Oct.St} (h : RdrAt W B' q u b s) (t : Trn W W' B F F') (d : DJ F (Ft q u)) : RdrAt W' B' q u b s :=
  h.keep t.bel.size (fun k hk => t.far k (h.ft hk).2 (fun hf => d k hf hk))
theorem WrAt.besideD {W W' : World} {B B' : Nat} {F F' : Nat → Prop} {q u : Value} {s : Oct.Wt} (h : WrAt W B' q u s) (t : Trn W W' B F F') (d : DJ F (Ft q u)) : WrAt W' B' q u s :=
  h.keep t.bel.size (fun k hk => t.far k (h.ft hk).2 (fun hf => d k hf hk))
end Go.Proofs.Ytagcildoebicnaa
