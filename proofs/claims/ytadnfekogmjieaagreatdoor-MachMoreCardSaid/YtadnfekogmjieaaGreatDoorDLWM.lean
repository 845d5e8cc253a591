/-
  Layer 51, the laws: a module and code that a law holds in variables. (Printed by gen_lw6.py.)
-/
import Derived.Test.YtadnfekogmjieaaGreatDoorDLWF
import Derived.Test.YtadnfekogmjieaaGreatDoorDLM4
import Derived.Test.YtadnfekogmjieaaGreatDoorDMC13
import Derived.Test.YtadnfekogmjieaaGreatDoorDGI
set_option linter.unusedVariables false
set_option linter.unusedSimpArgs false
namespace Go.Proofs.YtadnfekogmjieaaGreatDoor
open Go.RowKit
open Mc (Pl Mi Mf Th Wt Im Md)
/-- A module and code that a law holds: the first two blocks of its own. -/
structure DSt (w W : World) (m : Md) (x : MX) (S0 : Nat → Prop) (f : Mf) (S : Nat → Prop) (P : Option Addr) (c1 : Nat) (R : Option Addr) (c2 : Nat) (C : Option Addr) (c3 : Nat) : Prop where
  fs : FSt w W (w.heap.size + 1) f S P c1 R c2 C c3
  md : Var W w.heap.size (mdA m x) 33
  ml : MdL S0 W m x
section
variable {w W W' : World} {m : Md} {x : MX} {S0 S : Nat → Prop} {f : Mf} {P R C : Option Addr} {c1 c2 c3 : Nat}
theorem DSt.step (h : DSt w W m x S0 f S P c1 R c2 C c3) (hb : Below W.heap.size W W') : DSt w W' m x S0 f S P c1 R c2 C c3 := ⟨h.fs.step hb, var_keep h.md hb, h.ml.on hb⟩
theorem DSt.new (hm : MdL S0 w m x) (h : MfAt S w f P R C) (G : GlobM w) : DSt w ((w.alloc (.cells (mdA m x) 33)).alloc (.cells (mfV f P c1 R c2 C c3) 39)) m x S0 f S P c1 R c2 C c3 := by
  have hb := (Below.refl w.heap.size w).alloc (Nat.le_refl _) (.cells (mdA m x) 33)
  have hb2 := (Below.refl (w.alloc (.cells (mdA m x) 33)).heap.size (w.alloc (.cells (mdA m x) 33))).alloc (Nat.le_refl _) (.cells (mfV f P c1 R c2 C c3) 39)
  have hs : (w.alloc (.cells (mdA m x) 33)).heap.size = w.heap.size + 1 := by
    show (w.heap.push _).size = _
    exact Array.size_push _
  have hv := Var.new (w.alloc (.cells (mdA m x) 33)) (mfV f P c1 R c2 C c3) 39
  rw [hs] at hv
  exact ⟨⟨hb.trans (hb2.mono hb.size), hv, (h.on hb).on hb2, G⟩, var_keep (Var.new _ _ _) hb2, (hm.on hb).on hb2⟩
/-- A store to a later block. -/
theorem DSt.set (h : DSt w W m x (fun g => g < w.heap.size) f (fun g => g < w.heap.size) P c1 R c2 C c3) {Kg : Nat} (hK : w.heap.size + 2 ≤ Kg) (o : Nat) (u : Value) : DSt w (W.setCell ⟨Kg, o, none⟩ u) m x (fun g => g < w.heap.size) f (fun g => g < w.heap.size) P c1 R c2 C c3 := by
  have hg := grown_set W Kg o u
  have hk : Keep (fun g => g < w.heap.size) W (W.setCell ⟨Kg, o, none⟩ u) := keep_grown hg (by omega)
  exact ⟨⟨below_grown h.fs.bel hg h.fs.bel.size (by omega), Var.other h.fs.var (by omega) o u, h.fs.at_.keep hk hg.size, h.fs.g0⟩, Var.other h.md (by omega) o u, h.ml.keep hk hg.size⟩
end
theorem RdM.take {w : World} {S : Nat → Prop} {A : Option Addr} {l : List Mi} (h : RdM w S A l) (i : Nat) : RdM w S A (l.take i) := fun hl => by
  obtain ⟨g, o, e, a, b, c⟩ := h (by intro e; rw [e] at hl; simp at hl)
  exact ⟨g, o, e, a, b, fun j hj => by
    rw [List.getElem_take]
    exact c j (by rw [List.length_take] at hj; omega)⟩
theorem MfAt.cut {w : World} {S : Nat → Prop} {f : Mf} {P R C : Option Addr} (h : MfAt S w f P R C) (k : Nat) : MfAt S w (Mc.cutF f k) P R C := ⟨h.ps, h.rs, RdM.take h.code k⟩
theorem wr64 {z : Int} (h0 : 0 ≤ z) (h1 : z ≤ 1000000) : wrap64 z = z := by unfold wrap64; omega
theorem wri64 {z : Int} (h0 : 0 ≤ z) (h1 : z ≤ 1000000) : IntKind.i64.wrap z = z := by rw [IntKind.wrap_i64]; omega
theorem tmod_low {a n : Int} (h0 : 0 ≤ a) (h1 : 0 < n) : 0 ≤ Int.tmod a n ∧ Int.tmod a n < n := by
  rw [Int.tmod_eq_emod_of_nonneg h0]
  exact ⟨Int.emod_nonneg a (by omega), Int.emod_lt_of_pos a h1⟩
theorem tmod_nat {a : Int} {n : Nat} (h0 : 0 ≤ a) : ∃ k : Nat, Hid (Int.tmod a ((n : Int) + 1) = (k : Int)) ∧ k ≤ n := by
  obtain ⟨h1, h2⟩ := tmod_low h0 (n := (n : Int) + 1) (by omega)
  refine ⟨(Int.tmod a ((n : Int) + 1)).toNat, Lib.hid (by rw [Int.toNat_of_nonneg h1]), ?_⟩
  generalize Int.tmod a ((n : Int) + 1) = t at h1 h2 ⊢
  omega
theorem few_sm {m : Md} (h : m.Few) : (Mc.thOf m).Sm := by
  have t := Mc.thOf_few h
  exact ⟨by have := t.ty; omega, by have := t.fn; omega, by have := t.tb; omega, by have := t.mm; omega, by have := t.gl; omega, by have := t.el; omega, by have := t.da; omega⟩
/-- mach.Check of a prefix. -/
theorem cut_check (m : Md) (hm : m.Few) (x : MX) (ho : x.One) (f : Mf) (P : Option Addr) (p1 : Nat) (R0 : Option Addr) (p2 : Nat) (C : Option Addr) (p3 : Nat) (regs : Int) (hps : f.ps.length ≤ 1000) (hrs : f.rs.length ≤ 1000) (hcl : f.code.length ≤ 100000) (hli : ∀ y ∈ f.code, y.d.length ≤ 1000000 ∧ y.s.length ≤ 1000000 ∧ y.tos.length ≤ 1000000) (S0 S1 : Nat → Prop) (k : Nat) (hk : k ≤ f.code.length) (w : World) (G : GlobM w) (hmd : MdRd S0 w m x) (hf : MfAt S1 w f P R0 C) :
    Calls Tryz.prog 12 #[.agg (mdA m x), .agg #[.slice P f.ps.length p1, .slice R0 f.rs.length p2, .int .i64 f.slots, .slice C k p3], .int .i64 regs] w fun e w' => e = .returned (.tuple #[.int .i64 (Mc.check (Mc.thOf m) (Mc.cutF f k) regs).1, .int .i64 (Mc.check (Mc.thOf m) (Mc.cutF f k) regs).2]) ∧ Below w.heap.size w w' := by
  have h1 : (Mc.cutF f k).code.length = k := by show (f.code.take k).length = k; rw [List.length_take]; omega
  have := mcheck_any m hm x ho (Mc.cutF f k) P p1 R0 p2 C p3 regs hps hrs (by omega) (fun y hy => hli y (List.mem_of_mem_take hy)) S0 S1 w G hmd (hf.cut k)
  unfold mfV at this
  rw [h1] at this
  exact this
def pfxK (f : Mf) (k i : Nat) : Prop := (0 < k ∧ Mc.goesK (f.code.getD (k - 1) Mc.mi0).kind = false) ∧ ∀ i', i' < i → ∀ z ∈ (f.code.getD i' Mc.mi0).tos, z < (k : Int)
def pfx2 (f : Mf) (k i : Nat) (t : List Int) (j : Nat) : Prop := pfxK f k i ∧ ∀ z ∈ t.take j, z < (k : Int)
theorem pfx_zero {f : Mf} {k : Nat} : pfxK f k 0 ↔ (0 < k ∧ Mc.goesK (f.code.getD (k - 1) Mc.mi0).kind = false) := ⟨fun h => h.1, fun h => ⟨h, fun _ h => absurd h (by omega)⟩⟩
theorem pfx_fits {f : Mf} {k : Nat} : pfxK f k k ↔ Mc.fitsK f k := Iff.rfl
theorem pfx2_zero {f : Mf} {k i : Nat} {t : List Int} : pfx2 f k i t 0 ↔ pfxK f k i := ⟨fun h => h.1, fun h => ⟨h, by simp⟩⟩
theorem pfx2_succ {f : Mf} {k i j : Nat} {t : List Int} (hj : j < t.length) : pfx2 f k i t (j + 1) ↔ pfx2 f k i t j ∧ t[j] < (k : Int) := by
  unfold pfx2
  rw [List.take_succ_eq_append_getElem hj]
  constructor
  · rintro ⟨h1, h2⟩
    exact ⟨⟨h1, fun z hz => h2 z (List.mem_append_left _ hz)⟩, h2 _ (List.mem_append_right _ (List.mem_singleton_self _))⟩
  · rintro ⟨⟨h1, h2⟩, h3⟩
    refine ⟨h1, fun z hz => ?_⟩
    rcases List.mem_append.1 hz with hz | hz
    · exact h2 z hz
    · rw [List.mem_singleton.1 hz]; exact h3
theorem pfx2_all {f : Mf} {k i : Nat} (hi : i < f.code.length) : pfx2 f k i f.code[i].tos f.code[i].tos.length ↔ pfxK f k (i + 1) := by
  unfold pfx2 pfxK
  rw [List.take_length]
  constructor
  · rintro ⟨⟨h1, h2⟩, h3⟩
    refine ⟨h1, fun i' hi' => ?_⟩
    rcases Nat.lt_or_ge i' i with h4 | h4
    · exact h2 i' h4
    · obtain rfl : i' = i := by omega
      rw [Mc.getD_at hi]; exact h3
  · rintro ⟨h1, h2⟩
    exact ⟨⟨h1, fun i' hi' => h2 i' (by omega)⟩, by have := h2 i (by omega); rwa [Mc.getD_at hi] at this⟩
theorem goes_any (z : Int) (w : World) : Calls Tryz.prog 21 #[.int .i64 z] w fun e w' => e = .returned (.bool (Mc.goesK z)) ∧ w = w' := by
  by_cases h0 : z = 19
  · subst h0
    go_enter Tryz.func21, Tryz.ntmps21
    go_wp2_with fail
    go_ret
    exact ⟨rfl, rfl⟩
  by_cases h1 : z = 21
  · subst h1
    go_enter Tryz.func21, Tryz.ntmps21
    go_wp2_with fail
    go_ret
    exact ⟨rfl, rfl⟩
  by_cases h2 : z = 22
  · subst h2
    go_enter Tryz.func21, Tryz.ntmps21
    go_wp2_with fail
    go_ret
    exact ⟨rfl, rfl⟩
  by_cases h3 : z = 23
  · subst h3
    go_enter Tryz.func21, Tryz.ntmps21
    go_wp2_with fail
    go_ret
    exact ⟨rfl, rfl⟩
  have e : Mc.goesK z = (z != 19 && z != 21 && z != 22 && z != 23) := by
    unfold Mc.goesK bne
    cases (z == 19) <;> cases (z == 21) <;> cases (z == 22) <;> cases (z == 23) <;> rfl
  rw [e]
  go_enter Tryz.func21, Tryz.ntmps21
  go_wp2_with fail
  go_ret
  exact ⟨rfl, rfl⟩
end Go.Proofs.YtadnfekogmjieaaGreatDoor
