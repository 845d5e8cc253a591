/-
  Layer 51, the laws: a module and code that a law holds in variables. (Printed by gen_lw6.py.)
-/
import Derived.Test.YtadnfekogmjieaaGreatDoorGLWF
import Derived.Test.YtadnfekogmjieaaGreatDoorGG0
import Derived.Test.YtadnfekogmjieaaGreatDoorGMC13
import Derived.Test.YtadnfekogmjieaaGreatDoorGGI
set_option linter.unusedVariables false
set_option linter.unusedSimpArgs false
namespace Go.Proofs.YtadnfekogmjieaaGreatDoor
open Go.RowKit
open Mc (Pl Mi Mf Th Wt Im Md)
structure DSt (w W : World) (m : Md) (x : MX) (S0 : Nat → Prop) (f : Mf) (S : Nat → Prop) (P : Option Addr) (c1 : Nat) (R : Option Addr) (c2 : Nat) (C : Option Addr) (c3 : Nat) : Prop where
  fs : FSt w W (w.heap.size + 1) f S P c1 R c2 C c3
  md : Var W w.heap.size (mdA m x) 33
  ml : MdL S0 W m x
section
variable {w W W' : World} {m : Md} {x : MX} {S0 S : Nat → Prop} {f : Mf} {P R C : Option Addr} {c1 c2 c3 : Nat}
theorem DSt.step (h : DSt w W m x S0 f S P c1 R c2 C c3) (hb : Below W.heap.size W W') : DSt w W' m x S0 f S P c1 R c2 C c3 := ⟨h.fs.step hb, var_keep h.md hb, h.ml.on hb⟩
theorem DSt.new (hm : MdL S0 w m x) (h : MfAt S w f P R C) (G : GlobM w) : DSt w ((w.alloc (.cells (mdA m x) 33)).alloc (.cells (mfV f P c1 R c2 C c3) 39)) m x S0 f S P c1 R c2 C c3 := by
  have hb := (Below.refl w.heap.size w).alloc (Nat.le_refl _) (.cells (mdA m x) 33)
  have hb2 := (Below.refl (w.alloc (.cells (mdA m x) 33)).heap.size (w.alloc (.cells (mdA m x) 33))).alloc (Nat.le_refl _) (.cells (mfV f P c1 R c2 C c3) 39)
  have hs : (w.alloc (.cells (mdA m x) 33)).heap.size = w.heap.size + 1 := by
    show (w.heap.push _).size = _
    exact Array.size_push _
  have hv := Var.new (w.alloc (.cells (mdA m x) 33)) (mfV f P c1 R c2 C c3) 39
  rw [hs] at hv
  exact ⟨⟨hb.trans (hb2.mono hb.size), hv, (h.on hb).on hb2, G⟩, var_keep (Var.new _ _ _) hb2, (hm.on hb).on hb2⟩
theorem DSt.set (h : DSt w W m x (fun g => g < w.heap.size) f (fun g => g < w.heap.size) P c1 R c2 C c3) {Kg : Nat} (hK : w.heap.size + 2 ≤ Kg) (o : Nat) (u : Value) : DSt w (W.setCell ⟨Kg, o, none⟩ u) m x (fun g => g < w.heap.size) f (fun g => g < w.heap.size) P c1 R c2 C c3 := by
  have hg := grown_set W Kg o u
  have hk : Keep (fun g => g < w.heap.size) W (W.setCell ⟨Kg, o, none⟩ u) := keep_grown hg (by omega)
  exact ⟨⟨below_grown h.fs.bel hg h.fs.bel.size (by omega), Var.other h.fs.var (by omega) o u, h.fs.at_.keep hk hg.size, h.fs.g0⟩, Var.other h.md (by omega) o u, h.ml.keep hk hg.size⟩
end
theorem RdM.take {w : World} {S : Nat → Prop} {A : Option Addr} {l : List Mi} (h : RdM w S A l) (i : Nat) : RdM w S A (l.take i) := fun hl => by
  obtain ⟨g, o, e, a, b, c⟩ := h (by intro e; rw [e] at hl; simp at hl)
  exact ⟨g, o, e, a, b, fun j hj => by
    rw [List.getElem_take]
    exact c j (by rw [List.length_take] at hj; omega)⟩
theorem MfAt.cut {w : World} {S : Nat → Prop} {f : Mf} {P R C : Option Addr} (h : MfAt S w f P R C) (k : Nat) : MfAt S w (Mc.cutF f k) P R C := ⟨h.ps, h.rs, RdM.take h.code k⟩
theorem goes_any (z : Int) (w : World) : Calls Tryz.prog 21 #[.int .i64 z] w fun e w' => e = .returned (.bool (Mc.goesK z)) ∧ w = w' := by
  by_cases h0 : z = 19
  · subst h0
    go_enter Tryz.func21, Tryz.ntmps21
    go_wp2_with fail
    go_ret
    exact ⟨rfl, rfl⟩
  by_cases h1 : z = 21
  · subst h1
    go_enter Tryz.func21, Tryz.ntmps21
    go_wp2_with fail
    go_ret
    exact ⟨rfl, rfl⟩
  by_cases h2 : z = 22
  · subst h2
    go_enter Tryz.func21, Tryz.ntmps21
    go_wp2_with fail
    go_ret
    exact ⟨rfl, rfl⟩
  by_cases h3 : z = 23
  · subst h3
    go_enter Tryz.func21, Tryz.ntmps21
    go_wp2_with fail
    go_ret
    exact ⟨rfl, rfl⟩
  have e : Mc.goesK z = (z != 19 && z != 21 && z != 22 && z != 23) := by
    unfold Mc.goesK bne
    cases (z == 19) <;> cases (z == 21) <;> cases (z == 22) <;> cases (z == 23) <;> rfl
  rw [e]
  go_enter Tryz.func21, Tryz.ntmps21
  go_wp2_with fail
  go_ret
  exact ⟨rfl, rfl⟩
end Go.Proofs.YtadnfekogmjieaaGreatDoor
