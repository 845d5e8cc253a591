/-
  Slices of elements of k cells each: what the world holds of them (RdS), a row of the call's own read so, and appends.
-/
import Derived.Test.YtmhmpobjjhbklaaGreatDoorWords
set_option linter.unusedVariables false
set_option linter.unusedSimpArgs false
namespace Go.Proofs.YtmhmpobjjhbklaaGreatDoor
open Go.RowKit

/-- A slice of elements of k cells reads as l, below block B. -/
def RdS {α : Type} (w : World) (B : Nat) (A : Option Addr) (k : Nat) (enc : α → List Value) (l : List α) : Prop :=
  l ≠ [] → ∃ g o, A = some ⟨g, o, none⟩ ∧ g < B ∧ ∀ i (h : i < l.length) j v, (enc l[i])[j]? = some v → w.cell? ⟨g, o + i * k + j, none⟩ = some v
section
variable {α : Type} {w w' : World} {B B' : Nat} {A : Option Addr} {k : Nat} {enc : α → List Value} {l : List α}
theorem RdS.keep (h : RdS w B A k enc l) (hk : ∀ p : Addr, p.block < B → w'.cell? p = w.cell? p) : RdS w' B A k enc l := fun hl => by
  obtain ⟨g, o, e, hb, hc⟩ := h hl
  exact ⟨g, o, e, hb, fun i hi j v hv => (hk _ hb).trans (hc i hi j v hv)⟩
theorem RdS.below (h : RdS w B A k enc l) (hb : Below B w w') : RdS w' B A k enc l := h.keep fun _ hp => hb.cell hp
theorem RdS.more (h : RdS w B A k enc l) (hB : B ≤ B') : RdS w B' A k enc l := fun hl => by
  obtain ⟨g, o, e, hb, hc⟩ := h hl
  exact ⟨g, o, e, by omega, hc⟩
theorem RdS.on (h : RdS w w.heap.size A k enc l) (hb : Below w.heap.size w w') : RdS w' w'.heap.size A k enc l := (h.below hb).more hb.size
theorem RdS.drewN (h : RdS w B A k enc l) (n : Nat) : RdS (w.drewN n) B A k enc l := h
theorem RdS.nil_ : RdS w B A k enc ([] : List α) := fun h => absurd rfl h
theorem RdS.get (h : RdS w B A k enc l) {i : Nat} (hi : i < l.length) : ∃ g o, A = some ⟨g, o, none⟩ ∧ g < B ∧ ∀ j v, (enc l[i])[j]? = some v → w.cell? ⟨g, o + i * k + j, none⟩ = some v := by
  obtain ⟨g, o, e, hb, hc⟩ := h (by intro e; rw [e] at hi; simp at hi)
  exact ⟨g, o, e, hb, fun j v hv => hc i hi j v hv⟩
/-- A part of a slice: from i on. -/
theorem RdS.from_ (h : RdS w B A k enc l) {i : Nat} (hi : i < l.length) : ∃ g o, A = some ⟨g, o, none⟩ ∧ RdS w B (some ⟨g, o + i * k, none⟩) k enc (l.drop i) := by
  obtain ⟨g, o, e, hb, hc⟩ := h (by intro e; rw [e] at hi; simp at hi)
  refine ⟨g, o, e, fun _ => ⟨g, o + i * k, rfl, hb, fun j hj m v hv => ?_⟩⟩
  have hj2 : i + j < l.length := by simp at hj; omega
  rw [List.getElem_drop] at hv
  have := hc (i + j) hj2 m v hv
  rw [show o + i * k + j * k + m = o + (i + j) * k + m from by rw [Nat.add_mul]; omega]
  exact this
end
theorem flat_len {α : Type} {k : Nat} {enc : α → List Value} (hk : ∀ x, (enc x).length = k) : ∀ l : List α, (l.flatMap enc).length = l.length * k
  | [] => by simp
  | x :: l => by
    rw [List.flatMap_cons, List.length_append, flat_len hk l, hk]
    simp [Nat.add_mul]; omega
theorem flat_at {α : Type} {k : Nat} {enc : α → List Value} (hk : ∀ x, (enc x).length = k) : ∀ (l : List α) (i : Nat) (h : i < l.length) (j : Nat), j < k → (l.flatMap enc)[i * k + j]? = (enc l[i])[j]?
  | x :: l, 0, _, j, hj => by
    rw [List.flatMap_cons, List.getElem?_append_left (by rw [hk]; omega)]
    simp
  | x :: l, i + 1, h, j, hj => by
    have := flat_at hk l i (by simpa using h) j hj
    rw [List.flatMap_cons, List.getElem?_append_right (by rw [hk, Nat.add_mul]; omega), hk, show (i + 1) * k + j - k = i * k + j by rw [Nat.add_mul]; omega, this]
    simp
theorem flat_one {α : Type} {enc : α → List Value} (h1 : ∀ x, ∀ u ∈ enc x, u.oneCell' = true) (l : List α) : ∀ u ∈ l.flatMap enc, u.oneCell' = true := fun u hu => by
  obtain ⟨x, _, hx⟩ := List.mem_flatMap.1 hu
  exact h1 x u hx
theorem own_rds {α : Type} {w : World} {base : Nat} {e : TypeId} {A : Option Addr} {c n k : Nat} {enc : α → List Value} {l : List α} (hk : ∀ x, (enc x).length = k) (hk0 : 0 < k) (h : w.ownsRow base e k (.slice A n c) n (l.flatMap enc)) : RdS w w.heap.size A k enc l := fun hl => by
  have hn : l.length = n := by
    have := h.1
    rw [flat_len hk] at this
    exact Nat.eq_of_mul_eq_mul_right hk0 this
  have hp : 0 < n := by rcases l with _ | _ <;> simp_all <;> omega
  obtain ⟨g, cap, hv, hb, hlt⟩ := h.form hp
  injection hv with hv
  subst hv
  refine ⟨g, 0, rfl, hlt, fun i hi j v hj => ?_⟩
  have hjk : j < k := by
    have := (List.getElem?_eq_some_iff.1 hj).1
    rw [hk] at this; exact this
  have hlt2 : i * k + j < n * k := by
    have : i + 1 ≤ n := by omega
    have := Nat.mul_le_mul_right k this
    rw [Nat.add_mul] at this; omega
  have z := h.cellAt (i * k + j) hlt2
  rw [flat_at hk l i hi j hjk, hj] at z
  rw [Nat.zero_add]
  exact z
/-- A slice read so, as the kit's appends ask it. -/
theorem RdS.reads {α : Type} {w : World} {B : Nat} {A : Option Addr} {k : Nat} {enc : α → List Value} {l : List α} (hk : ∀ x, (enc x).length = k) (h : RdS w B A k enc l) : Reads w B k A l.length (l.flatMap enc) := by
  refine ⟨flat_len hk l, fun hp => ?_⟩
  obtain ⟨g, o, rfl, hb, hc⟩ := h (by intro e; rw [e] at hp; simp at hp)
  refine ⟨_, rfl, hb, fun j u hu => ?_⟩
  have hj : j < l.length * k := by
    have := (List.getElem?_eq_some_iff.1 hu).1
    rw [flat_len hk] at this; exact this
  have hk0 : 0 < k := by rcases Nat.eq_zero_or_pos k with h0 | h0; · subst h0; simp at hj
                         · exact h0
  have hi : j / k < l.length := (Nat.div_lt_iff_lt_mul hk0).2 hj
  have hm : j % k < k := Nat.mod_lt _ hk0
  have hd : j / k * k + j % k = j := Nat.div_add_mod' j k
  have e1 : (⟨g, o, none⟩ : Addr).add j = ⟨g, o + (j / k) * k + j % k, none⟩ := by
    unfold Addr.add
    split
    · rename_i h0; subst h0; simp
    · simp; omega
  rw [e1]
  refine hc (j / k) hi (j % k) u ?_
  rw [← flat_at hk l (j / k) hi (j % k) hm, hd]
  exact hu
theorem block_reads {w : World} {g : Nat} {cs : Array Value} {e : TypeId} {m k : Nat} (hm : cs.size = m * k) (h : w.heap[g]? = some (.cells cs e (0, 0))) : Reads w w.heap.size k (some ⟨g, 0, none⟩) m cs.toList := by
  refine ⟨by simpa using hm, fun _ => ⟨_, rfl, (Array.getElem?_eq_some_iff.1 h).1, fun j u hu => ?_⟩⟩
  have e1 : (⟨g, 0, none⟩ : Addr).add j = ⟨g, j, none⟩ := by
    unfold Addr.add
    split
    · rename_i hj; subst hj; rfl
    · simp
  rw [e1, cell_of_row _ _ _ _ _ _ h]
  simpa using hu
/-- A block that is known whole reads as a slice. -/
theorem block_rds {α : Type} {w : World} {g : Nat} {cs : Array Value} {e : TypeId} {k : Nat} {enc : α → List Value} {l : List α} (hk : ∀ x, (enc x).length = k) (hcs : cs.toList = l.flatMap enc) (h : w.heap[g]? = some (.cells cs e (0, 0))) : RdS w w.heap.size (some ⟨g, 0, none⟩) k enc l := fun _ => by
  refine ⟨g, 0, rfl, (Array.getElem?_eq_some_iff.1 h).1, fun i hi j v hj => ?_⟩
  have hjk : j < k := by
    have := (List.getElem?_eq_some_iff.1 hj).1
    rw [hk] at this; exact this
  rw [cell_of_row _ _ _ _ _ _ h, Nat.zero_add, ← Array.getElem?_toList, hcs, flat_at hk l i hi j hjk]
  exact hj

/-- 'append(out, l...)', l a row that is read. -/
theorem app_rs {α : Type} {enc : α → List Value} {k bytes : Nat} {t e : TypeId} {z : Value} {i0 : TypeInfo} (hu : Tryz.prog.underlying t = some (.slice e)) (hi : Tryz.prog.info? e = some i0) (hz0 : i0.zero = some z) (hz1 : i0.size = k) (hz2 : i0.bytes = bytes) (hzs : z.cells.size = k) (hk0 : 0 < k)
    (hk : ∀ x, (enc x).length = k) (h1 : ∀ x, ∀ u ∈ enc x, u.oneCell' = true)
    {ops : Array Oper} {rest : List Oper} {o : Oper} {a : Act} {Q : Exit → Act → World → Prop} (w : World) (hgd : o.guard = none) (s x : Operand)
    (ho : o.op = .call { callee := .builtin .append, args := #[s, x], argTypes := #[t, t] })
    (base : Nat) (v : Value) (n : Nat) (l : List α) (hs : a.eval s = v) (hown : w.ownsRow base e k v n (l.flatMap enc)) (m : List α) (M c : Nat) (A : Option Addr) (hM : m.length = M)
    (hx : a.eval x = .slice A M c) (hrd : Reads w w.heap.size k A M (m.flatMap enc)) (hlen : n + M ≤ 1000000000) (hby : bytes ≤ 1000) (hbase : base ≤ w.heap.size)
    (h : ∀ A' c' w', w'.ownsRow base e k (.slice A' (n + M) c') (n + M) ((l ++ m).flatMap enc) → w.grownBy w' v.ownBlock →
      wpList Tryz.prog ops Q rest (a.put o.dst (.slice A' (n + M) c')) w') : wpList Tryz.prog ops Q (o :: rest) a w := by
  subst hM
  refine wpList_append_any _ hgd s x t ho base e i0 z k bytes hu hi hz0 hz1 hz2 hzs hk0 v n (l.flatMap enc) hs hown w.heap.size A m.length c (m.flatMap enc) hx hrd (flat_one h1 m) (by unfold maxLen; omega) ?_ hbase ?_
  · have := Nat.mul_le_mul hlen hby
    omega
  · intro v' w' h1 h2 h3
    obtain ⟨A', c', rfl, _, _⟩ := own_slice h1
    exact h A' c' w' (by rw [List.flatMap_append]; exact h1) h2
end Go.Proofs.YtmhmpobjjhbklaaGreatDoor
