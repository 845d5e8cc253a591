/-
  Layer 51, the laws: the turned instruction as MachTurned holds it. (Printed by gen_lt4.py.)
-/
import Derived.Test.YtadnfekogmjieaaGreatDoorELT3
import Derived.Test.YtadnfekogmjieaaGreatDoorETk
set_option linter.unusedVariables false
set_option linter.unusedSimpArgs false
namespace Go.Proofs.YtadnfekogmjieaaGreatDoor
open Go.RowKit
open Mc (Pl Mi Mf Th Wt Im Md)
theorem at_anyH {F : World → Prop} {P : Program} {ops : Array Oper} {Q : Exit → Act → World → Prop} {md : Region.Mode} {S : World → Prop} {fuel : Nat} {listed : Array Bool} {a : Act} {Wx : World} (hf : F Wx) (h : ∀ w, F w → wpAnyH P md ops Q S fuel listed a w) : wpAnyH P md ops Q S fuel listed a Wx := h _ hf
/-- 'append(out, l...)' inside a region that draws its order, the sums under names. -/
theorem step_appN {α : Type} {enc : α → List Value} {k bytes : Nat} {t e : TypeId} {z : Value} {i0 : TypeInfo} (hu : Tryz.prog.underlying t = some (.slice e)) (hi : Tryz.prog.info? e = some i0) (hz0 : i0.zero = some z) (hz1 : i0.size = k) (hz2 : i0.bytes = bytes) (hzs : z.cells.size = k) (hk0 : 0 < k)
    (hk : ∀ x, (enc x).length = k) (h1 : ∀ x, ∀ u ∈ enc x, u.oneCell' = true)
    {ops : Array Oper} {o : Oper} {a : Act} {K : Act → World → Prop} {Q : Exit → Act → World → Prop} {E : Prop} (w : World) (hgd : o.guard = none) (s x : Operand)
    (ho : o.op = .call { callee := .builtin .append, args := #[s, x], argTypes := #[t, t] })
    (base : Nat) (v : Value) (n : Nat) (l : List α) (hs : a.eval s = v) (hown : w.ownsRow base e k v n (l.flatMap enc)) (m : List α) (M c : Nat) (A : Option Addr) (hM : m.length = M)
    (hx : a.eval x = .slice A M c) (hrd : Reads w w.heap.size k A M (m.flatMap enc)) (N : Nat) (hN : n + M = N) (L : List α) (hL : l ++ m = L) (hlen : N ≤ 1000000000) (hby : bytes ≤ 1000) (hbase : base ≤ w.heap.size)
    (h : ∀ A' c' w', w'.ownsRow base e k (.slice A' N c') N (L.flatMap enc) → w.grownBy w' v.ownBlock → ((Value.slice A' N c').ownBlock = v.ownBlock ∨ (Value.slice A' N c').ownBlock = some w.heap.size) → K (a.put o.dst (.slice A' N c')) w') :
    if Region.wanted o (yielded ops a.tmps) = true then Oper.wp Tryz.prog o a w K Q else E := by
  subst hN hL
  exact step_app2 hu hi hz0 hz1 hz2 hzs hk0 hk h1 w hgd s x ho base v n l hs hown m M c A hM hx hrd hlen hby hbase h
/-- The same, where the order is one. -/
theorem app_rsN {α : Type} {enc : α → List Value} {k bytes : Nat} {t e : TypeId} {z : Value} {i0 : TypeInfo} (hu : Tryz.prog.underlying t = some (.slice e)) (hi : Tryz.prog.info? e = some i0) (hz0 : i0.zero = some z) (hz1 : i0.size = k) (hz2 : i0.bytes = bytes) (hzs : z.cells.size = k) (hk0 : 0 < k)
    (hk : ∀ x, (enc x).length = k) (h1 : ∀ x, ∀ u ∈ enc x, u.oneCell' = true)
    {ops : Array Oper} {rest : List Oper} {o : Oper} {a : Act} {Q : Exit → Act → World → Prop} (w : World) (hgd : o.guard = none) (s x : Operand)
    (ho : o.op = .call { callee := .builtin .append, args := #[s, x], argTypes := #[t, t] })
    (base : Nat) (v : Value) (n : Nat) (l : List α) (hs : a.eval s = v) (hown : w.ownsRow base e k v n (l.flatMap enc)) (m : List α) (M c : Nat) (A : Option Addr) (hM : m.length = M)
    (hx : a.eval x = .slice A M c) (hrd : Reads w w.heap.size k A M (m.flatMap enc)) (N : Nat) (hN : n + M = N) (L : List α) (hL : l ++ m = L) (hlen : N ≤ 1000000000) (hby : bytes ≤ 1000) (hbase : base ≤ w.heap.size)
    (h : ∀ A' c' w', w'.ownsRow base e k (.slice A' N c') N (L.flatMap enc) → w.grownBy w' v.ownBlock → ((Value.slice A' N c').ownBlock = v.ownBlock ∨ (Value.slice A' N c').ownBlock = some w.heap.size) → wpList Tryz.prog ops Q rest (a.put o.dst (.slice A' N c')) w') : wpList Tryz.prog ops Q (o :: rest) a w := by
  subst hN hL
  exact app_rs2 hu hi hz0 hz1 hz2 hzs hk0 hk h1 w hgd s x ho base v n l hs hown m M c A hM hx hrd hlen hby hbase h
/-- The instruction that is turned. -/
structure TSt (w W : World) (m : Md) (x : MX) (f : Mf) (P : Option Addr) (c1 : Nat) (R : Option Addr) (c2 : Nat) (C : Option Addr) (c3 : Nat) (Kx : Nat) (y : Mi) (D : Option Addr) (d1 : Nat) (E : Option Addr) (d2 : Nat) (T : Option Addr) (d3 : Nat) : Prop where
  ds : DSt w W m x (fun g => g < w.heap.size) f (fun g => g < w.heap.size) P c1 R c2 C c3
  xv : Var W Kx (miV y D d1 E d2 T d3) 61
  rd : MiRd (fun g => g < w.heap.size ∨ Kx < g) W y D E T
  cp : y.d.length ≤ d1
  lo : w.heap.size + 2 ≤ Kx
section
variable {w W W' : World} {m : Md} {x : MX} {f : Mf} {P R C : Option Addr} {c1 c2 c3 Kx : Nat} {y y' : Mi} {D E T D' E' T' : Option Addr} {d1 d2 d3 e1 e2 e3 : Nat}
theorem TSt.step (h : TSt w W m x f P c1 R c2 C c3 Kx y D d1 E d2 T d3) (hb : Below W.heap.size W W') : TSt w W' m x f P c1 R c2 C c3 Kx y D d1 E d2 T d3 := ⟨h.ds.step hb, var_keep h.xv hb, h.rd.on hb, h.cp, h.lo⟩
/-- A cell of it is written. -/
theorem TSt.put (h : TSt w W m x f P c1 R c2 C c3 Kx y D d1 E d2 T d3) (hb : Below W.heap.size W W') (o : Nat) (u : Value) (hv : (miV y D d1 E d2 T d3).setIfInBounds o u = miV y' D' e1 E' e2 T' e3) (hr : MiRd (fun g => g < w.heap.size ∨ Kx < g) W' y' D' E' T') (hc : y'.d.length ≤ e1) : TSt w (W'.setCell ⟨Kx, o, none⟩ u) m x f P c1 R c2 C c3 Kx y' D' e1 E' e2 T' e3 := by
  have h' := h.step hb
  have lo := h.lo
  have hg := grown_set W' Kx o u
  refine ⟨h'.ds.set h.lo o u, by rw [← hv]; exact h'.xv.set o u, hr.keep (keep_grown hg ?_) hg.size, hc, h.lo⟩
  rintro (hk | hk) <;> omega
theorem TSt.of (h : DSt w W m x (fun g => g < w.heap.size) f (fun g => g < w.heap.size) P c1 R c2 C c3) (hr : MiRd (fun g => g < w.heap.size) W y D E T) (hc : y.d.length ≤ d1) : TSt w (W.alloc (.cells (miV y D d1 E d2 T d3) 61)) m x f P c1 R c2 C c3 W.heap.size y D d1 E d2 T d3 := by
  have hb := (Below.refl W.heap.size W).alloc (Nat.le_refl _) (.cells (miV y D d1 E d2 T d3) 61)
  exact ⟨h.step hb, Var.new _ _ _, (hr.on hb).mono fun g _ hg => .inl hg, hc, by have := h.fs.var.lt; omega⟩
end
section
variable {w W : World} {m : Md} {x : MX} {f : Mf} {P R C A : Option Addr} {c1 c2 c3 Kx : Nat} {y : Mi} {D E T : Option Addr} {d1 d2 d3 : Nat}
/-- What the region that puts the code together loads. -/
theorem TSt.spr (h : TSt w W m x f P c1 R c2 C c3 Kx y D d1 E d2 T d3) (hA : Hid ((mfV f P c1 R c2 C c3)[3]? = some (.slice A f.code.length c3))) {U : World} (b : Below W.heap.size W U) :
    U.cell? ⟨w.heap.size + 1, 3, none⟩ = some (.slice A f.code.length c3) ∧ U.cell? ⟨Kx, 0, none⟩ = some (.int .i64 y.kind) ∧ U.cell? ⟨Kx, 1, none⟩ = some (.int .i64 y.op) ∧ U.cell? ⟨Kx, 2, none⟩ = some (.int .i64 y.a) ∧ U.cell? ⟨Kx, 3, none⟩ = some (.int .i64 y.b) ∧ U.cell? ⟨Kx, 4, none⟩ = some (.int .u64 (y.n : Int)) ∧ U.cell? ⟨Kx, 5, none⟩ = some (.slice D y.d.length d1) ∧ U.cell? ⟨Kx, 6, none⟩ = some (.slice E y.s.length d2) ∧ U.cell? ⟨Kx, 7, none⟩ = some (.slice T y.tos.length d3) ∧ U.cell? ⟨Kx, 8, none⟩ = some (.int .i64 y.trap) := by
  have v := h.ds.fs.var.below b h.ds.fs.var.lt
  have z := h.xv.below b h.xv.lt
  exact ⟨(v.cells 3).trans hA.out, z.cells 0, z.cells 1, z.cells 2, z.cells 3, z.cells 4, z.cells 5, z.cells 6, z.cells 7, z.cells 8⟩
/-- The same behind the store. -/
theorem TSt.sprS (h : TSt w W m x f P c1 R c2 C c3 Kx y D d1 E d2 T d3) (hA : Hid ((mfV f P c1 R c2 C c3)[3]? = some (.slice A f.code.length c3))) {U : World} (b : Below W.heap.size W U) {Kg : Nat} (h1 : w.heap.size + 1 ≠ Kg) (h2 : Kx ≠ Kg) (u : Value) :
    (U.setCell ⟨Kg, 3, none⟩ u).cell? ⟨w.heap.size + 1, 3, none⟩ = some (.slice A f.code.length c3) ∧ (U.setCell ⟨Kg, 3, none⟩ u).cell? ⟨Kx, 0, none⟩ = some (.int .i64 y.kind) ∧ (U.setCell ⟨Kg, 3, none⟩ u).cell? ⟨Kx, 1, none⟩ = some (.int .i64 y.op) ∧ (U.setCell ⟨Kg, 3, none⟩ u).cell? ⟨Kx, 2, none⟩ = some (.int .i64 y.a) ∧ (U.setCell ⟨Kg, 3, none⟩ u).cell? ⟨Kx, 3, none⟩ = some (.int .i64 y.b) ∧ (U.setCell ⟨Kg, 3, none⟩ u).cell? ⟨Kx, 4, none⟩ = some (.int .u64 (y.n : Int)) ∧ (U.setCell ⟨Kg, 3, none⟩ u).cell? ⟨Kx, 5, none⟩ = some (.slice D y.d.length d1) ∧ (U.setCell ⟨Kg, 3, none⟩ u).cell? ⟨Kx, 6, none⟩ = some (.slice E y.s.length d2) ∧ (U.setCell ⟨Kg, 3, none⟩ u).cell? ⟨Kx, 7, none⟩ = some (.slice T y.tos.length d3) ∧ (U.setCell ⟨Kg, 3, none⟩ u).cell? ⟨Kx, 8, none⟩ = some (.int .i64 y.trap) := by
  have v := (h.ds.fs.var.below b h.ds.fs.var.lt).other h1 3 u
  have z := (h.xv.below b h.xv.lt).other h2 3 u
  exact ⟨(v.cells 3).trans hA.out, z.cells 0, z.cells 1, z.cells 2, z.cells 3, z.cells 4, z.cells 5, z.cells 6, z.cells 7, z.cells 8⟩
theorem vo_two {U : World} {K : Nat} {a0 a1 : Value} {t : TypeId} (h : Hid (Var W K #[a0, a1] t)) (b : Below W.heap.size W U) : U.cell? ⟨K, 0, none⟩ = some a0 ∧ U.cell? ⟨K, 1, none⟩ = some a1 := ⟨(h.out.below b h.out.lt).cells 0, (h.out.below b h.out.lt).cells 1⟩
theorem vo_twoS {U : World} {K Kx : Nat} {a0 a1 : Value} {t : TypeId} (h : Hid (Var W K #[a0, a1] t)) (b : Below W.heap.size W U) (hne : K ≠ Kx) (o : Nat) (u : Value) : (U.setCell ⟨Kx, o, none⟩ u).cell? ⟨K, 0, none⟩ = some a0 ∧ (U.setCell ⟨Kx, o, none⟩ u).cell? ⟨K, 1, none⟩ = some a1 := ⟨((h.out.below b h.out.lt).other hne o u).cells 0, ((h.out.below b h.out.lt).other hne o u).cells 1⟩
end
theorem tmod_pos {a : Int} {n : Nat} (h0 : 0 ≤ a) (hn : 0 < n) : ∃ k : Nat, Hid (Int.tmod a (n : Int) = (k : Int)) ∧ k < n := by
  obtain ⟨h1, h2⟩ := tmod_low h0 (n := (n : Int)) (by omega)
  refine ⟨(Int.tmod a (n : Int)).toNat, Lib.hid (by rw [Int.toNat_of_nonneg h1]), ?_⟩
  generalize Int.tmod a (n : Int) = t at h1 h2 ⊢
  omega
/-- A list from its k-th element on, as a slice of a slice holds it. -/
theorem RdT.dropK {α : Type} {w : World} {S : Nat → Prop} {A : Option Addr} {k : Nat} {R : World → Nat → Nat → α → Prop} {l : List α} (h : RdT w S A k R l) (i c : Nat) (hc : l.length ≤ c) : RdT w S (if c = i then A else A.map fun a => a.add (i * k)) k R (l.drop i) := fun hl => by
  obtain ⟨g, o, e, a, b, hh⟩ := h (by intro e; rw [e] at hl; simp at hl)
  have hil : i < l.length := by
    rcases Nat.lt_or_ge i l.length with h | h
    · exact h
    · exact absurd (List.drop_eq_nil_iff.2 h) hl
  rw [if_neg (by omega)]
  refine ⟨g, o + i * k, by rw [e]; exact congrArg some (add_plain g o (i * k)), a, b, fun j hj => ?_⟩
  have h1 : i + j < l.length := by rw [List.length_drop] at hj; omega
  have := hh (i + j) h1
  rw [show o + i * k + j * k = o + (i + j) * k by rw [Nat.add_mul]; omega, List.getElem_drop]
  exact this
/-- The rest of a list behind its first element, as a slice of a slice holds it. -/
theorem tail_row {α : Type} {w : World} {S : Nat → Prop} {g o k : Nat} {R : World → Nat → Nat → α → Prop} {x : α} {l : List α} (h : RdT w S (some ⟨g, o, none⟩) k R (x :: l)) (c : Nat) (hc : l.length + 1 ≤ c) : RdT w S (if c = 1 then some ⟨g, o, none⟩ else some ⟨g, o + k, none⟩) k R l := fun hl => by
  have h0 := List.length_pos_iff.2 hl
  rw [if_neg (by omega)]
  obtain ⟨g', o', e, a, b, hh⟩ := h (by simp)
  cases e
  refine ⟨g, o + k, rfl, a, b, fun i hi => ?_⟩
  have := hh (i + 1) (by simp; omega)
  rw [show o + k + i * k = o + (i + 1) * k by rw [Nat.add_mul, Nat.one_mul]; omega]
  simpa using this
/-- The room of an instruction's sources and targets. -/
def CapAt (w : World) (g o : Nat) : Prop := (∀ E n c, w.cell? ⟨g, o + 6, none⟩ = some (.slice E n c) → n ≤ c) ∧ ∀ E n c, w.cell? ⟨g, o + 7, none⟩ = some (.slice E n c) → n ≤ c
/-- The code with the turned instruction, behind the store of its slice. -/
theorem set_code {w' : World} {Kg k : Nat} {f : Mf} {P R A : Option Addr} {q : Nat} {base : Nat} {y : Mi} {v : MV} {L1 L2 : List MV} (hv : v.1 = y) (hm1 : L1.map (·.1) = f.code.take k) (hm2 : L2.map (·.1) = f.code.drop (k + 1)) (hps : RdZ w' (fun g => g ≠ Kg) P f.ps) (hrs : RdZ w' (fun g => g ≠ Kg) R f.rs) {n : Nat} (hn : ((L1 ++ [v]) ++ L2).length = n)
    (ow : w'.ownsRow base 61 9 (.slice A n q) n (((L1 ++ [v]) ++ L2).flatMap encM)) (hb : Kg < base) (h1 : ∀ z ∈ L1, MvRd (fun g => g ≠ Kg) w' z) (hvr : MvRd (fun g => g ≠ Kg) w' v) (h2 : ∀ z ∈ L2, MvRd (fun g => g ≠ Kg) w' z) (u : Value) :
    MfAt (fun g => g ≠ Kg) (w'.setCell ⟨Kg, 3, none⟩ u) ⟨f.ps, f.rs, f.slots, f.code.take k ++ (y :: f.code.drop (k + 1))⟩ P R A := by
  have hg := grown_set w' Kg 3 u
  subst hn
  have hc := own_mv ow (S := fun g => g ≠ Kg) (fun g hg => by omega) (fun z hz => by
    rcases List.mem_append.1 hz with hz | hz
    · rcases List.mem_append.1 hz with hz | hz
      · exact h1 z hz
      · rw [List.mem_singleton.1 hz]; exact hvr
    · exact h2 z hz)
  have he : ((L1 ++ [v]) ++ L2).map (·.1) = f.code.take k ++ (y :: f.code.drop (k + 1)) := by
    rw [List.map_append, List.map_append, hm1, hm2, ← hv]; simp
  rw [he] at hc
  exact MfAt.keep ⟨hps, hrs, hc⟩ (keep_grown hg (fun h => h rfl)) hg.size
end Go.Proofs.YtadnfekogmjieaaGreatDoor
