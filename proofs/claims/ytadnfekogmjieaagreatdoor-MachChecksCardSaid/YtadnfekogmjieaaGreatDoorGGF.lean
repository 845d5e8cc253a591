/-
  Layer 51: rows in memory, read and owned (put together of chapter 40's texts).
  Layer 51, plain: machine instructions, what is printed of them.
  Layer 51: instructions and functions as they lie in memory; the table of kinds.
-/
import Derived.Test.YtadnfekogmjieaaGreatDoorGGC
import Derived.Test.YtadnfekogmjieaaGreatDoorGGD
import Derived.Test.YtadnfekogmjieaaGreatDoorGGA
import Derived.Test.YtadnfekogmjieaaGreatDoorGGE
set_option linter.unusedVariables false
set_option linter.unusedSimpArgs false
namespace Go.Proofs.YtadnfekogmjieaaGreatDoor
open Go.RowKit
def InR (z : Int) : Prop := -9223372036854775808 ≤ z ∧ z ≤ 9223372036854775807
def encZ (z : Int) : List Value := [.int .i64 z]
theorem encZ_len (z : Int) : (encZ z).length = 1 := rfl
theorem encZ_one (z : Int) : ∀ u ∈ encZ z, u.oneCell' = true := by simp [encZ, Value.oneCell']
theorem one_str (W : World) (s : List UInt8) : Reads (W.alloc (.cells #[.string ⟨s.toArray⟩] 9)) (W.alloc (.cells #[.string ⟨s.toArray⟩] 9)).heap.size 1 (some ⟨W.heap.size, 0, none⟩) 1 ([s].flatMap encS) := block_reads (cs := #[.string ⟨s.toArray⟩]) rfl (heap_alloc_new W _)
def Keep (S : Nat → Prop) (w w' : World) : Prop := ∀ (p : Addr) (v : Value), S p.block → w.cell? p = some v → w'.cell? p = some v
theorem Below.keep {w w' : World} (h : Below w.heap.size w w') (S : Nat → Prop) : Keep S w w' := fun p v _ hc => (h.cell (World.block_lt_of_cell? w p hc)).trans hc
theorem Keep.trans {S : Nat → Prop} {a b c : World} (h : Keep S a b) (k : Keep S b c) : Keep S a c := fun p v hs hc => k p v hs (h p v hs hc)
def RdT {α : Type} (w : World) (S : Nat → Prop) (A : Option Addr) (k : Nat) (R : World → Nat → Nat → α → Prop) (l : List α) : Prop :=
  l ≠ [] → ∃ g o, A = some ⟨g, o, none⟩ ∧ S g ∧ g < w.heap.size ∧ ∀ i (h : i < l.length), R w g (o + i * k) l[i]
section
variable {α : Type} {w w' : World} {S : Nat → Prop} {A : Option Addr} {k : Nat} {R : World → Nat → Nat → α → Prop} {l : List α}
theorem RdT.get (h : RdT w S A k R l) {i : Nat} (hi : i < l.length) : ∃ g o, A = some ⟨g, o, none⟩ ∧ S g ∧ g < w.heap.size ∧ R w g (o + i * k) l[i] := by
  obtain ⟨g, o, e, hb, hg, hc⟩ := h (by intro e; rw [e] at hi; simp at hi)
  exact ⟨g, o, e, hb, hg, hc i hi⟩
theorem RdT.nil_ : RdT w S A k R ([] : List α) := fun h => absurd rfl h
theorem RdT.keep (hR : ∀ g o x, S g → R w g o x → R w' g o x) (hsz : w.heap.size ≤ w'.heap.size) (h : RdT w S A k R l) : RdT w' S A k R l := fun hl => by
  obtain ⟨g, o, e, hb, hg, hc⟩ := h hl
  exact ⟨g, o, e, hb, by omega, fun i hi => hR _ _ _ hb (hc i hi)⟩
end
def ZAt (w : World) (g o : Nat) (z : Int) : Prop := w.cell? ⟨g, o, none⟩ = some (.int .i64 z)
abbrev RdZ (w : World) (S : Nat → Prop) (A : Option Addr) (l : List Int) : Prop := RdT w S A 1 ZAt l
theorem RdZ.keep {w w' : World} {S : Nat → Prop} {A : Option Addr} {l : List Int} (hk : Keep S w w') (hsz : w.heap.size ≤ w'.heap.size) (h : RdZ w S A l) : RdZ w' S A l := RdT.keep (fun g o x hs hx => hk _ _ hs hx) hsz h
theorem RdZ.rds {w : World} {S : Nat → Prop} {A : Option Addr} {l : List Int} (h : RdZ w S A l) : RdS w w.heap.size A 1 encZ l := fun hl => by
  obtain ⟨g, o, e, hb, hg, hc⟩ := h hl
  refine ⟨g, o, e, hg, fun i hi j v hv => ?_⟩
  have hj : j = 0 := by
    have := (List.getElem?_eq_some_iff.1 hv).1
    simp [encZ] at this; exact this
  subst hj
  simp [encZ] at hv
  subst hv
  exact hc i hi
theorem RdZ.of_rds {w : World} {S : Nat → Prop} {B : Nat} {A : Option Addr} {l : List Int} (h : RdS w B A 1 encZ l) (hS : ∀ g o, A = some ⟨g, o, none⟩ → S g) : RdZ w S A l := fun hl => by
  obtain ⟨g, o, e, hb, hc⟩ := h hl
  have h0 : 0 < l.length := List.length_pos_iff.2 hl
  refine ⟨g, o, e, hS g o e, World.block_lt_of_cell? w _ (hc 0 h0 0 _ rfl), fun i hi => hc i hi 0 _ rfl⟩
theorem grown_set (w : World) (K o : Nat) (u : Value) : w.grownBy (w.setCell ⟨K, o, none⟩ u) (some K) :=
  ⟨rfl, rfl, rfl, by simp, fun b _ hb => Below.heap_setCell _ _ _ _ (fun e => hb (by rw [e]))⟩
theorem below_grown {B : Nat} {a w w' : World} {K : Nat} (h : Below B a w) (hg : w.grownBy w' (some K)) (hB : B ≤ w.heap.size) (hK : B ≤ K) : Below B a w' := h.grown hg hB (fun k e => by cases e; exact hK)
theorem keep_grown {S : Nat → Prop} {W W' : World} {k : Nat} (hg : W.grownBy W' (some k)) (hk : ¬ S k) : Keep S W W' := fun p v hs hc => hg.cell hc (fun e => by injection e with e; exact hk (e ▸ hs))
theorem RdT.mono {α : Type} {w : World} {S S' : Nat → Prop} {A : Option Addr} {k : Nat} {R R' : World → Nat → Nat → α → Prop} {l : List α} (h : RdT w S A k R l) (hS : ∀ g, g < w.heap.size → S g → S' g) (hR : ∀ g o x, R w g o x → R' w g o x) : RdT w S' A k R' l := fun hl => by
  obtain ⟨g, o, e, hs, hg, hc⟩ := h hl
  exact ⟨g, o, e, hS g hg hs, hg, fun i hi => hR _ _ _ (hc i hi)⟩
theorem RdZ.mono {w : World} {S S' : Nat → Prop} {A : Option Addr} {l : List Int} (h : RdZ w S A l) (hS : ∀ g, g < w.heap.size → S g → S' g) : RdZ w S' A l := RdT.mono h hS (fun _ _ _ h => h)
theorem own_rdz {W : World} {base n c : Nat} {A : Option Addr} {l : List Int} {e : TypeId} (h : W.ownsRow base e 1 (.slice A n c) n (l.flatMap encZ)) : RdZ W (fun g => base ≤ g) A l :=
  RdZ.of_rds (own_rds encZ_len (by omega) h) (fun g o e => by subst e; exact (h.lt g rfl).1)
theorem RdZ.on {w w' : World} {S : Nat → Prop} {A : Option Addr} {l : List Int} (h : RdZ w S A l) (hb : Below w.heap.size w w') : RdZ w' S A l := h.keep (Below.keep hb S) hb.size
theorem info_val : (Tryz.prog.info? 68).map (fun i => (i.zero, i.size, i.bytes)) = some (some (.int .i64 0), 1, 8) := by kernel_rfl
theorem one_val (W : World) (z : Int) : Reads (W.alloc (.cells #[.int .i64 z] 68)) (W.alloc (.cells #[.int .i64 z] 68)).heap.size 1 (some ⟨W.heap.size, 0, none⟩) 1 ([z].flatMap encZ) := block_reads (cs := #[.int .i64 z]) rfl (heap_alloc_new W _)
theorem vals_step {w wr w2 : World} {e : TypeId} {k n : Nat} {v : Value} {xs : List Value} {o : Obj} (hown : wr.ownsRow w.heap.size e k v n xs) (hB : Below w.heap.size w wr) (hg : (wr.alloc o).grownBy w2 v.ownBlock) : Below w.heap.size w w2 :=
  (hB.alloc hB.size o).trans (below_own (hown.alloc _) hg (by have := hB.size; simp; omega))
theorem var_stay {W W' : World} {K k : Nat} {cs : Array Value} {t : TypeId} (h : Var W K cs t) (hg : W.grownBy W' (some k)) (hne : K ≠ k) : Var W' K cs t := (hg.block K h.lt (fun e => hne (by injection e))).trans h
theorem var_keep {W W' : World} {K : Nat} {cs : Array Value} {t : TypeId} (h : Var W K cs t) (hb : Below W.heap.size W W') : Var W' K cs t := h.below hb h.lt
theorem setRow_grown (W : World) (g : Nat) (cs : Array Value) : W.grownBy (W.setRow g cs) (some g) :=
  ⟨rfl, rfl, rfl, by show W.heap.size ≤ (W.heap.modify g _).size; rw [Array.size_modify]; omega, fun k _ hne => setRow_other W g k cs (fun e => hne (by rw [e]))⟩
theorem own_stay {W W' : World} {base k n b : Nat} {v : Value} {xs : List Value} {e : TypeId} (h : W.ownsRow base e k v n xs) (hg : W.grownBy W' (some b)) (hk : b < base) : W'.ownsRow base e k v n xs :=
  h.kept hg (.inr (fun e => by have := (h.lt _ e).1; omega))
theorem own_belowW {W W' : World} {base k n : Nat} {v : Value} {xs : List Value} {e : TypeId} (h : W.ownsRow base e k v n xs) (hb : Below W.heap.size W W') : W'.ownsRow base e k v n xs := by
  refine h.kept (row := none) ⟨hb.os, hb.tape, hb.output, hb.size, fun b hl _ => hb.block b hl⟩ ?_
  cases v.ownBlock <;> simp
theorem step_app {α : Type} {enc : α → List Value} {k bytes : Nat} {t e : TypeId} {z : Value} {i0 : TypeInfo} (hu : Tryz.prog.underlying t = some (.slice e)) (hi : Tryz.prog.info? e = some i0) (hz0 : i0.zero = some z) (hz1 : i0.size = k) (hz2 : i0.bytes = bytes) (hzs : z.cells.size = k) (hk0 : 0 < k)
    (hk : ∀ x, (enc x).length = k) (h1 : ∀ x, ∀ u ∈ enc x, u.oneCell' = true)
    {ops : Array Oper} {o : Oper} {a : Act} {K : Act → World → Prop} {Q : Exit → Act → World → Prop} {E : Prop} (w : World) (hgd : o.guard = none) (s x : Operand)
    (ho : o.op = .call { callee := .builtin .append, args := #[s, x], argTypes := #[t, t] })
    (base : Nat) (v : Value) (n : Nat) (l : List α) (hs : a.eval s = v) (hown : w.ownsRow base e k v n (l.flatMap enc)) (m : List α) (M c : Nat) (A : Option Addr) (hM : m.length = M)
    (hx : a.eval x = .slice A M c) (hrd : Reads w w.heap.size k A M (m.flatMap enc)) (hlen : n + M ≤ 1000000000) (hby : bytes ≤ 1000) (hbase : base ≤ w.heap.size)
    (h : ∀ A' c' w', w'.ownsRow base e k (.slice A' (n + M) c') (n + M) ((l ++ m).flatMap enc) → w.grownBy w' v.ownBlock → K (a.put o.dst (.slice A' (n + M) c')) w') :
    if Region.wanted o (yielded ops a.tmps) = true then Oper.wp Tryz.prog o a w K Q else E := by
  subst hM
  have hw : Region.wanted o (yielded ops a.tmps) = true := by simp [Region.wanted, hgd]
  rw [if_pos hw]
  refine wp_append_any w s x t ho base e i0 z k bytes hu hi hz0 hz1 hz2 hzs hk0 v n (l.flatMap enc) hs hown w.heap.size A m.length c (m.flatMap enc) hx hrd (flat_one h1 m) (by unfold maxLen; omega) ?_ hbase ?_
  · have := Nat.mul_le_mul hlen hby
    omega
  · intro v' w' h1 h2 h3
    obtain ⟨A', c', rfl, _, _⟩ := own_slice h1
    exact h A' c' w' (by rw [List.flatMap_append]; exact h1) h2
theorem app_rs2 {α : Type} {enc : α → List Value} {k bytes : Nat} {t e : TypeId} {z : Value} {i0 : TypeInfo} (hu : Tryz.prog.underlying t = some (.slice e)) (hi : Tryz.prog.info? e = some i0) (hz0 : i0.zero = some z) (hz1 : i0.size = k) (hz2 : i0.bytes = bytes) (hzs : z.cells.size = k) (hk0 : 0 < k)
    (hk : ∀ x, (enc x).length = k) (h1 : ∀ x, ∀ u ∈ enc x, u.oneCell' = true)
    {ops : Array Oper} {rest : List Oper} {o : Oper} {a : Act} {Q : Exit → Act → World → Prop} (w : World) (hgd : o.guard = none) (s x : Operand)
    (ho : o.op = .call { callee := .builtin .append, args := #[s, x], argTypes := #[t, t] })
    (base : Nat) (v : Value) (n : Nat) (l : List α) (hs : a.eval s = v) (hown : w.ownsRow base e k v n (l.flatMap enc)) (m : List α) (M c : Nat) (A : Option Addr) (hM : m.length = M)
    (hx : a.eval x = .slice A M c) (hrd : Reads w w.heap.size k A M (m.flatMap enc)) (hlen : n + M ≤ 1000000000) (hby : bytes ≤ 1000) (hbase : base ≤ w.heap.size)
    (h : ∀ A' c' w', w'.ownsRow base e k (.slice A' (n + M) c') (n + M) ((l ++ m).flatMap enc) → w.grownBy w' v.ownBlock → ((Value.slice A' (n + M) c').ownBlock = v.ownBlock ∨ (Value.slice A' (n + M) c').ownBlock = some w.heap.size) →
      wpList Tryz.prog ops Q rest (a.put o.dst (.slice A' (n + M) c')) w') : wpList Tryz.prog ops Q (o :: rest) a w := by
  subst hM
  refine wpList_append_any _ hgd s x t ho base e i0 z k bytes hu hi hz0 hz1 hz2 hzs hk0 v n (l.flatMap enc) hs hown w.heap.size A m.length c (m.flatMap enc) hx hrd (flat_one h1 m) (by unfold maxLen; omega) ?_ hbase ?_
  · have := Nat.mul_le_mul hlen hby
    omega
  · intro v' w' h1 h2 h3
    obtain ⟨A', c', rfl, _, _⟩ := own_slice h1
    exact h A' c' w' (by rw [List.flatMap_append]; exact h1) h2 h3
theorem own_apart {W : World} {b1 b2 k1 k2 n1 n2 : Nat} {e1 e2 : TypeId} {v1 v2 : Value} {x1 x2 : List Value} (h1 : W.ownsRow b1 e1 k1 v1 n1 x1) (h2 : W.ownsRow b2 e2 k2 v2 n2 x2) (hne : e1 ≠ e2) : ∀ j, v1.ownBlock = some j → v2.ownBlock ≠ some j := fun j hj hk => by
  obtain ⟨_, h1⟩ := h1
  obtain ⟨_, h2⟩ := h2
  rcases h1 with ⟨rfl, _⟩ | ⟨g1, c1, u1, rfl, _, hh1, _⟩
  · cases hj
  rcases h2 with ⟨rfl, _⟩ | ⟨g2, c2, u2, rfl, _, hh2, _⟩
  · cases hk
  simp [Value.ownBlock] at hj hk
  subst hj hk
  rw [hh1] at hh2
  injection hh2 with hh2
  injection hh2 with _ h
  exact hne h
theorem mk_size (s : List UInt8) : (ByteArray.mk s.toArray).size = s.length := by simp [ByteArray.size]
theorem flatZ (l : List Int) : l.flatMap encZ = l.map (Value.int .i64) := by
  induction l with
  | nil => rfl
  | cons x l ih => rw [List.flatMap_cons, ih]; rfl
theorem own_ne_var {W : World} {base : Nat} {e t : TypeId} {k n : Nat} {v : Value} {xs : List Value} {K : Nat} {cs : Array Value} (h : W.ownsRow base e k v n xs) (hv : Var W K cs t) (hte : t ≠ e) : v.ownBlock ≠ some K := fun hk => by
  obtain ⟨_, h⟩ := h
  rcases h with ⟨rfl, _⟩ | ⟨g, cap, cur, rfl, hbg, hheap, _⟩
  · cases hk
  · simp [Value.ownBlock] at hk
    subst hk
    unfold Var at hv
    rw [hv] at hheap
    injection hheap with hx
    injection hx with h1 h2 h3
    exact hte h2
theorem var_grown {W w' : World} {base : Nat} {e t : TypeId} {k n : Nat} {v : Value} {xs : List Value} {K : Nat} {cs : Array Value} (hv : Var W K cs t) (h : W.ownsRow base e k v n xs) (hte : t ≠ e) (hg : W.grownBy w' v.ownBlock) : Var w' K cs t :=
  (hg.block K hv.lt (fun e => own_ne_var h hv hte e.symm)).trans hv
theorem RdS.rdI {w : World} {B : Nat} {A : Option Addr} {l : List Int} (h : RdS w B A 1 encZ l) : RdI w B A l := by
  have := h.reads encZ_len
  rw [flatZ] at this
  exact this
theorem lit_own2 {α : Type} {enc : α → List Value} {k n base : Nat} {e : TypeId} {l : List α} {cs : Array Value} (w : World) (hb : base ≤ w.heap.size) (hcs : cs.toList = l.flatMap enc) (hk : ∀ x, (enc x).length = k) (hn : l.length = n) (hm : n ≤ 1000000) :
    (w.alloc (.cells cs e)).ownsRow base e k (.slice (some ⟨w.heap.size, 0, none⟩) n n) n (l.flatMap enc) := by
  have := World.ownsRow_lit (base := base) (e := e) (size := k) w cs n hb (by unfold maxLen; omega) (by rw [← Array.length_toList, hcs, flat_len hk, hn])
  rw [hcs] at this
  exact this
theorem put4 {W : World} {K : Nat} {t : TypeId} {a0 a1 a2 a3 : Value} (h : Var W K #[a0, a1, a2, a3] t) (b0 b1 b2 b3 : Value) :
    Var ((((W.setCell ⟨K, 0, none⟩ b0).setCell ⟨K, 1, none⟩ b1).setCell ⟨K, 2, none⟩ b2).setCell ⟨K, 3, none⟩ b3) K #[b0, b1, b2, b3] t ∧
    W.grownBy ((((W.setCell ⟨K, 0, none⟩ b0).setCell ⟨K, 1, none⟩ b1).setCell ⟨K, 2, none⟩ b2).setCell ⟨K, 3, none⟩ b3) (some K) :=
  ⟨by have h7 := (((h.set 0 b0).set 1 b1).set 2 b2).set 3 b3; simp only [List.setIfInBounds_toArray, List.set_cons_zero, List.set_cons_succ] at h7; exact h7,
   (grown_set _ _ _ _).trans ((grown_set _ _ _ _).trans ((grown_set _ _ _ _).trans (grown_set _ _ _ _)))⟩
theorem cells4' {W : World} {K : Nat} {t : TypeId} {v0 v1 v2 v3 : Value} (h : Var W K #[v0, v1, v2, v3] t) : (W.cell? ⟨K, 0, none⟩ = some v0 ∧ W.cell? ⟨K, 1, none⟩ = some v1 ∧ W.cell? ⟨K, 2, none⟩ = some v2 ∧ W.cell? ⟨K, 3, none⟩ = some v3) ∧ W.frozen? ⟨K, 0, none⟩ = false ∧ W.frozen? ⟨K, 1, none⟩ = false ∧ W.frozen? ⟨K, 2, none⟩ = false ∧ W.frozen? ⟨K, 3, none⟩ = false :=
  ⟨⟨h.cells 0, h.cells 1, h.cells 2, h.cells 3⟩, h.froz 0, h.froz 1, h.froz 2, h.froz 3⟩
theorem flatS (l : List (List UInt8)) : l.flatMap encS = strs l := by
  induction l with
  | nil => rfl
  | cons x l ih => rw [List.flatMap_cons, ih]; rfl
theorem sjoins_any (base : Nat) (A : Option Addr) (n cr : Nat) (l : List (List UInt8)) (sep : List UInt8) (w : World) (hn : l.length = n) (hown : w.ownsRow base 9 1 (.slice A n cr) n (l.flatMap encS)) (hl : n ≤ 1000000000) (hs : (Lib.join l sep).length ≤ 1000000000) :
    Calls Tryz.prog 73 #[.slice A n cr, .string ⟨sep.toArray⟩] w fun e w' => e = .returned (.string ⟨(Lib.join l sep).toArray⟩) ∧ Below w.heap.size w w' := by
  rw [flatS] at hown
  subst hn
  by_cases h0 : l = []
  · subst h0
    refine (Tryz.strings_Join_none A cr ⟨sep.toArray⟩ w).mono ?_
    rintro e w1 ⟨rfl, rfl⟩
    exact ⟨rfl, Below.refl _ _⟩
  · have hp : 0 < l.length := List.length_pos_iff.2 h0
    obtain ⟨hcap, _⟩ := own_cap hown
    obtain ⟨g, cap, hv, _, hlt⟩ := hown.form hp
    injection hv with hA _ hc
    subst hA hc
    have e1 : (l.map (fun t => (⟨t.toArray⟩ : ByteArray))).map (·.data.toList) = l := by simp [Function.comp_def]
    have := Tryz.strings_Join g 0 cr (l.map (fun t => (⟨t.toArray⟩ : ByteArray))) ⟨sep.toArray⟩ w (by
      intro j x hx
      have hjl : j < l.length := by
        rcases Nat.lt_or_ge j l.length with h | h
        · exact h
        · rw [List.getElem?_eq_none (by simpa using h)] at hx; cases hx
      rw [Nat.zero_add, hown.cellAt j (by omega)]
      simp [hjl] at hx
      subst hx
      simp [strs, hjl]) hlt (by simp; omega) (by simpa using hcap) (by rw [e1]; show (Lib.join l sep).length ≤ _; omega)
    rw [e1, List.length_map] at this
    exact this
namespace Mc
theorem dec_len (k : Nat) : ∀ u : Nat, u < 10 ^ (k + 1) → (Lib.decDigits u).length ≤ k + 1 := by
  induction k with
  | zero => intro u h; rw [Lib.decDigits, dif_pos (by simpa using h)]; simp
  | succ k ih =>
    intro u h
    rw [Lib.decDigits]
    split
    · simp
    · have := ih (u / 10) (by rw [Nat.div_lt_iff_lt_mul (by omega)]; rw [Nat.pow_succ] at h; exact h)
      simp; omega
theorem itoa_len {z : Int} (h : InR z) : (Lib.itoa z).length ≤ 20 := by
  unfold InR at h
  unfold Lib.itoa
  split
  · have := dec_len 18 z.natAbs (by omega)
    simp; omega
  · have := dec_len 18 z.toNat (by omega)
    omega
theorem dec20 {u : Nat} (h : u < 18446744073709551616) : (Lib.decDigits u).length ≤ 20 := dec_len 19 u (by omega)
end Mc
end Go.Proofs.YtadnfekogmjieaaGreatDoor
set_option linter.unusedVariables false
set_option linter.unusedSimpArgs false
namespace Go.Proofs.YtadnfekogmjieaaGreatDoor.Mc
set_option maxRecDepth 100000 in
theorem all_names : ∀ x ∈ Opc.all, x.2.length ≤ 30 ∧ x.2 ≠ [] := by decide +kernel
theorem look_mem {op : Int} {l : List (Int × List UInt8)} {s : List UInt8} (h : Opc.look op l = some s) : (op, s) ∈ l := by
  induction l with
  | nil => cases h
  | cons r l ih =>
    rw [Opc.look] at h
    split at h
    · rename_i hr
      cases h; subst hr; simp
    · exact List.mem_cons_of_mem _ (ih h)
theorem name_len (op : Int) : (Opc.name op).length ≤ 30 := by
  unfold Opc.name
  rcases h : Opc.look op Opc.all with _ | s
  · simp
  · exact (all_names _ (look_mem h)).1
theorem known_name (op : Int) : (!(Opc.name op == [])) = Opc.known op := by
  unfold Opc.known Opc.name
  rcases h : Opc.look op Opc.all with _ | s
  · rfl
  · have := (all_names _ (look_mem h)).2
    simpa using this
structure Pl where
  slot : Bool
  n : Int
deriving DecidableEq
structure Mi where
  kind : Int
  op : Int
  a : Int
  b : Int
  n : Nat
  d : List Pl
  s : List Pl
  tos : List Int
  trap : Int
deriving DecidableEq
structure Mf where
  ps : List Int
  rs : List Int
  slots : Int
  code : List Mi
deriving DecidableEq
structure Rw where
  w : List UInt8
  op : Bool
  a : Bool
  b : Bool
  n : Bool
  t : Bool
def rws : List Rw := [
  ⟨[99, 111, 110, 115, 116], false, false, false, true, false⟩,
  ⟨[109, 111, 118, 101], false, false, false, false, false⟩,
  ⟨[117, 110], true, false, false, false, false⟩,
  ⟨[98, 105, 110], true, false, false, false, false⟩,
  ⟨[115, 101, 108, 101, 99, 116], false, false, false, false, false⟩,
  ⟨[108, 111, 97, 100], true, false, true, true, false⟩,
  ⟨[115, 116, 111, 114, 101], true, false, true, true, false⟩,
  ⟨[99, 104, 101, 99, 107], false, true, true, true, false⟩,
  ⟨[115, 105, 122, 101], false, false, true, false, false⟩,
  ⟨[103, 114, 111, 119], false, false, true, false, false⟩,
  ⟨[103, 108, 111, 98, 97, 108], false, true, false, false, false⟩,
  ⟨[115, 101, 116], false, true, false, false, false⟩,
  ⟨[99, 97, 108, 108], false, true, false, false, false⟩,
  ⟨[99, 97, 108, 108, 105], false, true, true, false, false⟩,
  ⟨[114, 101, 102], false, true, false, false, false⟩,
  ⟨[105, 115, 110, 117, 108, 108], false, false, false, false, false⟩,
  ⟨[98, 117, 108, 107], true, true, true, false, false⟩,
  ⟨[116, 97, 98], true, true, true, false, false⟩,
  ⟨[102, 117, 101, 108], false, true, false, false, false⟩,
  ⟨[106, 117, 109, 112], false, false, false, false, false⟩,
  ⟨[105, 102], false, false, false, false, false⟩,
  ⟨[115, 119, 105, 116, 99, 104], false, false, false, false, false⟩,
  ⟨[114, 101, 116, 117, 114, 110], false, false, false, false, false⟩,
  ⟨[116, 114, 97, 112], false, false, false, false, true⟩]
theorem rws_len : rws.length = 24 := rfl
def row (k : Int) : Rw := rws.getD k.toNat ⟨[], false, false, false, false, false⟩
def within (n m : Int) : Bool := decide (0 ≤ n) && decide (n ≤ m)
def index (n : Int) : Bool := within n 4294967295
def spareR (r : Rw) (x : Mi) : Bool := ((((r.op || x.op == 0) && (r.a || x.a == 0)) && (r.b || x.b == 0)) && (r.n || x.n == 0)) && (r.t || x.trap == 0)
def spare (x : Mi) : Bool := within x.kind 23 && spareR (row x.kind) x
def toldA (x : Mi) : Bool := ((((((spare x && !((row x.kind).op && (!Opc.known x.op || x.op == 28))) && index x.a) && index x.b) && !decide (x.trap < 0)) && !decide (12 < x.trap)))
def far (p : Pl) : Bool := !index p.n
def farN (n : Int) : Bool := !index n
def told (x : Mi) : Bool := toldA x && ((!x.d.any far && !x.s.any far) && !x.tos.any farN)
def plW (p : Pl) : List UInt8 := (if p.slot then 115 else 114) :: Lib.itoa p.n
def opsW (r : Rw) (x : Mi) : List (List UInt8) :=
  (if r.op then [Opc.name x.op] else []) ++ ((if r.a then [Lib.itoa x.a] else []) ++ ((if r.b then [Lib.itoa x.b] else []) ++ ((if r.n then [Lib.decDigits x.n] else []) ++ (if r.t then [Lib.itoa x.trap] else []))))
def placesW (x : Mi) : List (List UInt8) := if x.d = [] ∧ x.s = [] then [] else x.d.map plW ++ [61] :: x.s.map plW
def toW (x : Mi) : List (List UInt8) := if x.tos = [] then [] else [58] :: x.tos.map Lib.itoa
def lineW (x : Mi) : List (List UInt8) := (row x.kind).w :: (opsW (row x.kind) x ++ (placesW x ++ toW x))
def line (x : Mi) : List UInt8 := if told x then Lib.join (lineW x) [32] else []
def head (ps rs : List Int) (slots : Int) : List UInt8 := if (Ty.right ps && Ty.right rs) && index slots then [102, 117, 110, 99, 32] ++ (Ty.text ps rs ++ ([32, 115, 108, 111, 116, 115, 32] ++ Lib.itoa slots)) else []
def printGo : List Mi → Option (List UInt8)
  | [] => some []
  | x :: l => if line x = [] then none else (printGo l).map fun t => line x ++ 10 :: t
def print (f : Mf) : List UInt8 := if head f.ps f.rs f.slots = [] then [] else match printGo f.code with | none => [] | some t => head f.ps f.rs f.slots ++ 10 :: t
end Go.Proofs.YtadnfekogmjieaaGreatDoor.Mc
set_option linter.unusedVariables false
set_option linter.unusedSimpArgs false
namespace Go.Proofs.YtadnfekogmjieaaGreatDoor
open Go.RowKit
open Mc (Pl Mi Mf)
/-! The table of kinds, as the program lays it. -/
def encRw (r : Mc.Rw) : List Value := [.string ⟨r.w.toArray⟩, .bool r.op, .bool r.a, .bool r.b, .bool r.n, .bool r.t]
theorem encRw_len (r : Mc.Rw) : (encRw r).length = 6 := rfl
def rowCells : List Value := Mc.rws.flatMap encRw
theorem rowCells_len : rowCells.length = 144 := by unfold rowCells; rw [flat_len encRw_len, Mc.rws_len]
def Rws (w : World) : Prop := ∀ (i : Nat) (v : Value), rowCells[i]? = some v → w.cell? ⟨0, i, none⟩ = some v
theorem Rws.below {w w' : World} (h : Rws w) (hb : Below w.heap.size w w') : Rws w' := fun i v hi => (hb.cell (World.block_lt_of_cell? w _ (h i v hi))).trans (h i v hi)
theorem Rws.at_ {w : World} (h : Rws w) {k : Nat} (hk : k ≤ 23) :
    w.cell? ⟨0, k * 6, none⟩ = some (.string ⟨(Mc.row k).w.toArray⟩) ∧ w.cell? ⟨0, k * 6 + 1, none⟩ = some (.bool (Mc.row k).op) ∧ w.cell? ⟨0, k * 6 + 2, none⟩ = some (.bool (Mc.row k).a) ∧ w.cell? ⟨0, k * 6 + 3, none⟩ = some (.bool (Mc.row k).b) ∧
    w.cell? ⟨0, k * 6 + 4, none⟩ = some (.bool (Mc.row k).n) ∧ w.cell? ⟨0, k * 6 + 5, none⟩ = some (.bool (Mc.row k).t) := by
  have hk2 : k < Mc.rws.length := by rw [Mc.rws_len]; omega
  have e : Mc.row (k : Int) = Mc.rws[k] := by unfold Mc.row; simp [hk2]
  rw [e]
  have hf := fun j hj => flat_at encRw_len Mc.rws k hk2 j hj
  refine ⟨h _ _ (hf 0 (by omega)), h _ _ (hf 1 (by omega)), h _ _ (hf 2 (by omega)), h _ _ (hf 3 (by omega)), h _ _ (hf 4 (by omega)), h _ _ (hf 5 (by omega))⟩
structure GlobM (w : World) : Prop where
  g : Glob w
  r : Rws w
theorem GlobM.below {w w' : World} (h : GlobM w) (hb : Below w.heap.size w w') : GlobM w' := ⟨h.g.below hb, h.r.below hb⟩
/-! Instructions. -/
def PlAt (w : World) (g o : Nat) (p : Pl) : Prop := w.cell? ⟨g, o, none⟩ = some (.bool p.slot) ∧ w.cell? ⟨g, o + 1, none⟩ = some (.int .i64 p.n)
abbrev RdP (w : World) (S : Nat → Prop) (A : Option Addr) (l : List Pl) : Prop := RdT w S A 2 PlAt l
def miV (x : Mi) (D : Option Addr) (c1 : Nat) (E : Option Addr) (c2 : Nat) (T : Option Addr) (c3 : Nat) : Array Value := #[.int .i64 x.kind, .int .i64 x.op, .int .i64 x.a, .int .i64 x.b, .int .u64 (x.n : Int), .slice D x.d.length c1, .slice E x.s.length c2, .slice T x.tos.length c3, .int .i64 x.trap]
structure MiRd (S : Nat → Prop) (w : World) (x : Mi) (D E T : Option Addr) : Prop where
  d : RdP w S D x.d
  s : RdP w S E x.s
  t : RdZ w S T x.tos
def MiAt (S : Nat → Prop) (w : World) (g o : Nat) (x : Mi) : Prop := ∃ D c1 E c2 T c3, (∀ (j : Nat) v, (miV x D c1 E c2 T c3)[j]? = some v → w.cell? ⟨g, o + j, none⟩ = some v) ∧ MiRd S w x D E T ∧ x.d.length ≤ c1
abbrev RdM (w : World) (S : Nat → Prop) (A : Option Addr) (l : List Mi) : Prop := RdT w S A 9 (MiAt S) l
def mfV (f : Mf) (P : Option Addr) (c1 : Nat) (R : Option Addr) (c2 : Nat) (C : Option Addr) (c3 : Nat) : Array Value := #[.slice P f.ps.length c1, .slice R f.rs.length c2, .int .i64 f.slots, .slice C f.code.length c3]
structure MfAt (S : Nat → Prop) (w : World) (f : Mf) (P R C : Option Addr) : Prop where
  ps : RdZ w S P f.ps
  rs : RdZ w S R f.rs
  code : RdM w S C f.code
section
variable {S S' : Nat → Prop} {w w' : World}
theorem RdP.keep {A : Option Addr} {l : List Pl} (h : RdP w S A l) (hk : Keep S w w') (hs : w.heap.size ≤ w'.heap.size) : RdP w' S A l := RdT.keep (fun g o x hg hx => ⟨hk _ _ hg hx.1, hk _ _ hg hx.2⟩) hs h
theorem RdP.mono {A : Option Addr} {l : List Pl} (h : RdP w S A l) (hS : ∀ g, g < w.heap.size → S g → S' g) : RdP w S' A l := RdT.mono h hS (fun _ _ _ h => h)
theorem RdP.on {A : Option Addr} {l : List Pl} (h : RdP w S A l) (hb : Below w.heap.size w w') : RdP w' S A l := RdP.keep h (Below.keep hb S) hb.size
theorem MiRd.keep {x : Mi} {D E T : Option Addr} (h : MiRd S w x D E T) (hk : Keep S w w') (hs : w.heap.size ≤ w'.heap.size) : MiRd S w' x D E T := ⟨RdP.keep h.d hk hs, RdP.keep h.s hk hs, RdZ.keep hk hs h.t⟩
theorem MiRd.mono {x : Mi} {D E T : Option Addr} (h : MiRd S w x D E T) (hS : ∀ g, g < w.heap.size → S g → S' g) : MiRd S' w x D E T := ⟨RdP.mono h.d hS, RdP.mono h.s hS, RdZ.mono h.t hS⟩
theorem MiRd.on {x : Mi} {D E T : Option Addr} (h : MiRd S w x D E T) (hb : Below w.heap.size w w') : MiRd S w' x D E T := h.keep (Below.keep hb S) hb.size
theorem MiAt.keep (hk : Keep S w w') (hs : w.heap.size ≤ w'.heap.size) (g o : Nat) (x : Mi) (hg : S g) (h : MiAt S w g o x) : MiAt S w' g o x := by
  obtain ⟨D, c1, E, c2, T, c3, h1, h2, h3⟩ := h
  exact ⟨D, c1, E, c2, T, c3, fun j v hj => hk _ _ hg (h1 j v hj), h2.keep hk hs, h3⟩
theorem MiAt.mono (hS : ∀ g, g < w.heap.size → S g → S' g) (g o : Nat) (x : Mi) (h : MiAt S w g o x) : MiAt S' w g o x := by
  obtain ⟨D, c1, E, c2, T, c3, h1, h2, h3⟩ := h
  exact ⟨D, c1, E, c2, T, c3, h1, h2.mono hS, h3⟩
theorem RdM.keep {A : Option Addr} {l : List Mi} (h : RdM w S A l) (hk : Keep S w w') (hs : w.heap.size ≤ w'.heap.size) : RdM w' S A l := RdT.keep (fun g o x hg hx => MiAt.keep hk hs g o x hg hx) hs h
theorem RdM.mono {A : Option Addr} {l : List Mi} (h : RdM w S A l) (hS : ∀ g, g < w.heap.size → S g → S' g) : RdM w S' A l := RdT.mono h hS (MiAt.mono hS)
theorem RdM.on {A : Option Addr} {l : List Mi} (h : RdM w S A l) (hb : Below w.heap.size w w') : RdM w' S A l := RdM.keep h (Below.keep hb S) hb.size
theorem MfAt.keep {f : Mf} {P R C : Option Addr} (h : MfAt S w f P R C) (hk : Keep S w w') (hs : w.heap.size ≤ w'.heap.size) : MfAt S w' f P R C := ⟨RdZ.keep hk hs h.ps, RdZ.keep hk hs h.rs, RdM.keep h.code hk hs⟩
theorem MfAt.mono {f : Mf} {P R C : Option Addr} (h : MfAt S w f P R C) (hS : ∀ g, g < w.heap.size → S g → S' g) : MfAt S' w f P R C := ⟨RdZ.mono h.ps hS, RdZ.mono h.rs hS, RdM.mono h.code hS⟩
theorem MfAt.on {f : Mf} {P R C : Option Addr} (h : MfAt S w f P R C) (hb : Below w.heap.size w w') : MfAt S w' f P R C := h.keep (Below.keep hb S) hb.size
theorem MiAt.cells {g o : Nat} {x : Mi} (h : MiAt S w g o x) : ∃ D c1 E c2 T c3, (w.cell? ⟨g, o, none⟩ = some (.int .i64 x.kind) ∧ w.cell? ⟨g, o + 1, none⟩ = some (.int .i64 x.op) ∧ w.cell? ⟨g, o + 2, none⟩ = some (.int .i64 x.a) ∧ w.cell? ⟨g, o + 3, none⟩ = some (.int .i64 x.b) ∧ w.cell? ⟨g, o + 4, none⟩ = some (.int .u64 (x.n : Int)) ∧
    w.cell? ⟨g, o + 5, none⟩ = some (.slice D x.d.length c1) ∧ w.cell? ⟨g, o + 6, none⟩ = some (.slice E x.s.length c2) ∧ w.cell? ⟨g, o + 7, none⟩ = some (.slice T x.tos.length c3) ∧ w.cell? ⟨g, o + 8, none⟩ = some (.int .i64 x.trap)) ∧ MiRd S w x D E T := by
  obtain ⟨D, c1, E, c2, T, c3, h1, h2, h3⟩ := h
  exact ⟨D, c1, E, c2, T, c3, ⟨h1 0 _ rfl, h1 1 _ rfl, h1 2 _ rfl, h1 3 _ rfl, h1 4 _ rfl, h1 5 _ rfl, h1 6 _ rfl, h1 7 _ rfl, h1 8 _ rfl⟩, h2⟩
theorem MiAt.cellsC {g o : Nat} {x : Mi} (h : MiAt S w g o x) : ∃ D c1 E c2 T c3, (w.cell? ⟨g, o, none⟩ = some (.int .i64 x.kind) ∧ w.cell? ⟨g, o + 1, none⟩ = some (.int .i64 x.op) ∧ w.cell? ⟨g, o + 2, none⟩ = some (.int .i64 x.a) ∧ w.cell? ⟨g, o + 3, none⟩ = some (.int .i64 x.b) ∧ w.cell? ⟨g, o + 4, none⟩ = some (.int .u64 (x.n : Int)) ∧
    w.cell? ⟨g, o + 5, none⟩ = some (.slice D x.d.length c1) ∧ w.cell? ⟨g, o + 6, none⟩ = some (.slice E x.s.length c2) ∧ w.cell? ⟨g, o + 7, none⟩ = some (.slice T x.tos.length c3) ∧ w.cell? ⟨g, o + 8, none⟩ = some (.int .i64 x.trap)) ∧ MiRd S w x D E T ∧ x.d.length ≤ c1 := by
  obtain ⟨D, c1, E, c2, T, c3, h1, h2, h3⟩ := h
  exact ⟨D, c1, E, c2, T, c3, ⟨h1 0 _ rfl, h1 1 _ rfl, h1 2 _ rfl, h1 3 _ rfl, h1 4 _ rfl, h1 5 _ rfl, h1 6 _ rfl, h1 7 _ rfl, h1 8 _ rfl⟩, h2, h3⟩
end
theorem cells9 {W : World} {K : Nat} {t : TypeId} {v0 v1 v2 v3 v4 v5 v6 v7 v8 : Value} (h : Var W K #[v0, v1, v2, v3, v4, v5, v6, v7, v8] t) : W.cell? ⟨K, 0, none⟩ = some v0 ∧ W.cell? ⟨K, 1, none⟩ = some v1 ∧ W.cell? ⟨K, 2, none⟩ = some v2 ∧ W.cell? ⟨K, 3, none⟩ = some v3 ∧ W.cell? ⟨K, 4, none⟩ = some v4 ∧ W.cell? ⟨K, 5, none⟩ = some v5 ∧ W.cell? ⟨K, 6, none⟩ = some v6 ∧ W.cell? ⟨K, 7, none⟩ = some v7 ∧ W.cell? ⟨K, 8, none⟩ = some v8 :=
  ⟨h.cells 0, h.cells 1, h.cells 2, h.cells 3, h.cells 4, h.cells 5, h.cells 6, h.cells 7, h.cells 8⟩
/-! What they may be. -/
structure Mc.Mi.Ok (x : Mi) : Prop where
  kind : InR x.kind
  op : InR x.op
  a : InR x.a
  b : InR x.b
  n : x.n < 18446744073709551616
  d : x.d.length ≤ 100000 ∧ ∀ p ∈ x.d, InR p.n
  s : x.s.length ≤ 100000 ∧ ∀ p ∈ x.s, InR p.n
  tos : x.tos.length ≤ 100000 ∧ ∀ z ∈ x.tos, InR z
  trap : InR x.trap
structure Mc.Mf.Ok (f : Mf) : Prop where
  ps : f.ps.length ≤ 1000
  rs : f.rs.length ≤ 1000
  slots : InR f.slots
  code : f.code.length ≤ 100000 ∧ ∀ x ∈ f.code, x.Ok
end Go.Proofs.YtadnfekogmjieaaGreatDoor
