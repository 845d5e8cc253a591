/-
  Layer 51, the laws: code that a law holds in a variable. (Printed by gen_lw4.py.)
-/
import Derived.Test.YtadnfekogmjieaaGreatDoorGLW3
import Derived.Test.YtadnfekogmjieaaGreatDoorGGM
import Derived.Test.YtadnfekogmjieaaGreatDoorGGG
set_option linter.unusedVariables false
set_option linter.unusedSimpArgs false
namespace Go.Proofs.YtadnfekogmjieaaGreatDoor
open Go.RowKit
open Mc (Pl Mi Mf Th Wt Im Md)
structure FSt (w W : World) (K : Nat) (f : Mf) (S : Nat → Prop) (P : Option Addr) (c1 : Nat) (R : Option Addr) (c2 : Nat) (C : Option Addr) (c3 : Nat) : Prop where
  bel : Below w.heap.size w W
  var : Var W K (mfV f P c1 R c2 C c3) 39
  at_ : MfAt S W f P R C
  g0 : GlobM w
section
variable {w W W' : World} {K : Nat} {f : Mf} {S : Nat → Prop} {P R C : Option Addr} {c1 c2 c3 : Nat}
theorem FSt.step (h : FSt w W K f S P c1 R c2 C c3) (hb : Below W.heap.size W W') : FSt w W' K f S P c1 R c2 C c3 := ⟨h.bel.trans (hb.mono h.bel.size), var_keep h.var hb, h.at_.on hb, h.g0⟩
theorem FSt.glob (h : FSt w W K f S P c1 R c2 C c3) : GlobM W := h.g0.below h.bel
theorem FSt.new (h : MfAt S w f P R C) (G : GlobM w) : FSt w (w.alloc (.cells (mfV f P c1 R c2 C c3) 39)) w.heap.size f S P c1 R c2 C c3 := by
  have hb := (Below.refl w.heap.size w).alloc (Nat.le_refl _) (.cells (mfV f P c1 R c2 C c3) 39)
  exact ⟨hb, Var.new _ _ _, h.on hb, G⟩
theorem FSt.add {w1 : World} {N : Nat} (hb : Below w.heap.size w w1) (h : MfAt (fun g => N ≤ g) w1 f P R C) (G : GlobM w) : FSt w (w1.alloc (.cells (mfV f P c1 R c2 C c3) 39)) w1.heap.size f (fun g => N ≤ g) P c1 R c2 C c3 := by
  have ha := (Below.refl w1.heap.size w1).alloc (Nat.le_refl _) (.cells (mfV f P c1 R c2 C c3) 39)
  exact ⟨hb.trans (ha.mono hb.size), Var.new _ _ _, h.on ha, G⟩
end
theorem light_ok {f : Mf} (h : f.Light) (hq : ∀ x ∈ f.code, QMi x) (hs : InR f.slots) : f.Ok := by
  refine ⟨by have := h.ps; omega, by have := h.rs; omega, hs, by have := h.code; omega, fun x hx => ?_⟩
  obtain ⟨q1, q2, q3, q4, q5, q6, q7, q8, q9⟩ := hq x hx
  obtain ⟨l1, l2, l3⟩ := h.ins x hx
  exact ⟨q1, q2, q3, q4, q5, ⟨by omega, q6⟩, ⟨by omega, q7⟩, ⟨by omega, q8⟩, q9⟩
theorem ok_lists {f : Mf} (h : f.Ok) : ∀ z ∈ f.code, z.d.length ≤ 1000000 ∧ z.s.length ≤ 1000000 ∧ z.tos.length ≤ 1000000 := fun z hz => by
  obtain ⟨-, -, -, -, -, a, b, c, -⟩ := h.code.2 z hz
  exact ⟨by omega, by omega, by omega⟩
end Go.Proofs.YtadnfekogmjieaaGreatDoor
