/-
  Layer 51, the laws: no list of a module's types takes more than an address space. (Printed by gen_lm4.py.)
-/
import Derived.Test.YtadnfekogmjieaaGreatDoorELM3
set_option linter.unusedVariables false
set_option linter.unusedSimpArgs false
namespace Go.Proofs.YtadnfekogmjieaaGreatDoor
open Go.ChangeShapes Go.WideShapes Go.Deep Go.RowKit
open Mc (Pl Mi Mf Th Wt Im Md)
/-- A row handed as a condition of reach: no part of the datum weighs more. -/
def WOk {H : Type} (t : TypeId) (d : DataW H) : Prop := ∀ n ∈ d.weights Tryz.prog t, n ≤ reachBytes
theorem weights_all {H : Type} {e : TypeId} : ∀ (l : List (DataW H)), (∀ n ∈ DataW.weightsAll Tryz.prog e l, n ≤ reachBytes) → ∀ d ∈ l, WOk e d
  | [], _, d, h => by cases h
  | x :: l, hw, d, h => by
    rw [DataW.weightsAll] at hw
    rcases List.mem_cons.1 h with rfl | h
    · exact fun n hn => hw n (List.mem_append_left _ hn)
    · exact weights_all l (fun n hn => hw n (List.mem_append_right _ hn)) d h
section
variable {H : Type} {enc : TypeId × Value → H} {w : World} {base : Nat} {held : Bool} {spare : Nat → Bool}
theorem open_slice_w {α : Type} {T e : TypeId} {k by_ : Nat} (hT : Tryz.prog.underlying T = some (.slice e)) (hk : Tryz.prog.cellsOf e = k) (hk0 : 0 < k) (hby : Tryz.prog.bytesOf e = by_) (h8 : 8 ≤ by_)
    (R : World → Nat → Nat → α → Prop) (Q : α → Prop) {fuel : Nat}
    (hel : ∀ (m : Nat) (cs : List Value) (y : DataW H × List MemPlace), m < fuel → DataW.trod enc Tryz.prog w base spare held m e cs = some y → cs.length = k → ∀ g o, (∀ j, j < k → w.cell? ⟨g, o + j, none⟩ = cs[j]?) → ∃ a : α, R w g o a ∧ (WOk e y.1 → Q a))
    {cs : List Value} {x : DataW H × List MemPlace} (h : DataW.trod enc Tryz.prog w base spare held fuel T cs = some x) :
    ∃ (A : Option Addr) (c : Nat) (l : List α), cs = [.slice A l.length c] ∧ RdT w (fun g => g < w.heap.size) A k R l ∧ (WOk T x.1 → l.length ≤ 17592186044416 ∧ ∀ a ∈ l, Q a) := by
  rcases DataW.trod_slice hT h with ⟨rfl, rfl⟩ | ⟨a, len, cap, elems, rest, n, rfl, rfl, rfl, hb, hl, hm, hlen, hx, _, _⟩
  · exact ⟨none, 0, [], rfl, RdT.nil_, fun _ => ⟨by simp, by simp⟩⟩
  · rw [hk] at hx
    rcases Nat.eq_zero_or_pos len with h0 | h0
    · subst h0
      exact ⟨some a, cap, [], rfl, RdT.nil_, fun _ => ⟨by simp, by simp⟩⟩
    · have hsp : ∃ g o, a = ⟨g, o, none⟩ ∧ g < w.heap.size := by
        have hx0 := hx 0 h0
        rw [List.getElem?_eq_getElem (by omega)] at hx0
        obtain ⟨cs', hc, ht⟩ := Option.bind_eq_some_iff.1 hx0
        obtain ⟨_, hcl, hat⟩ := World.cells?_some hc
        have z0 := hat 0 hk0
        rw [List.getElem?_eq_getElem (by omega), Nat.zero_mul] at z0
        have hz : (a.add 0).add 0 = a := by unfold Addr.add; simp
        rw [hz] at z0
        obtain ⟨h1, h2⟩ := spot_of_cell z0
        obtain ⟨g, o, sp⟩ := a
        dsimp only at h1 h2
        subst h1
        exact ⟨g, o, rfl, h2⟩
      obtain ⟨g, o, rfl, hg⟩ := hsp
      have hE : ∀ i, i < len → ∃ b : α, R w g (o + i * k) b ∧ ∀ (hi : i < elems.length), WOk e elems[i].1 → Q b := by
        intro i hi
        have hxi := hx i hi
        have hie : i < elems.length := by omega
        rw [List.getElem?_eq_getElem hie] at hxi
        obtain ⟨cs', hc, ht⟩ := Option.bind_eq_some_iff.1 hxi
        obtain ⟨_, hcl, hat⟩ := World.cells?_some hc
        rw [add_plain] at hat
        obtain ⟨b, hb1, hb2⟩ := hel n cs' elems[i] (by omega) ht hcl g (o + i * k) (fun j hj => by have := hat j hj; rwa [add_plain] at this)
        exact ⟨b, hb1, fun _ => hb2⟩
      haveI : Inhabited α := ⟨(hE 0 h0).choose⟩
      obtain ⟨V, hV⟩ := choose_lt hE
      have hll : ((List.range len).map V).length = len := by simp
      refine ⟨some ⟨g, o, none⟩, cap, (List.range len).map V, by rw [hll], fun _ => ⟨g, o, rfl, hg, hg, fun i hi => ?_⟩, fun hW => ⟨?_, ?_⟩⟩
      · have hi' : i < len := by simpa using hi
        have := (hV i hi').1
        simpa using this
      · rw [hll]
        have := hW ((elems.map (·.1)).length * by_ + (rest.map (·.1)).length * by_) (by
          rw [← Nat.add_mul]
          unfold DataW.weights
          rw [hT]
          simp only [hby]
          exact List.mem_cons_self ..)
        rw [List.length_map, hlen] at this
        have h1 : len * 8 ≤ len * by_ := Nat.mul_le_mul_left _ h8
        unfold reachBytes at this
        omega
      · intro b hb
        obtain ⟨i, hi, rfl⟩ := List.mem_map.1 hb
        have hi' : i < len := List.mem_range.1 hi
        have hie : i < elems.length := by omega
        refine (hV i hi').2 hie (weights_all (elems.map (·.1)) (fun n hn => hW n ?_) _ (List.mem_map.2 ⟨elems[i], List.getElem_mem _, rfl⟩))
        unfold DataW.weights
        rw [hT]
        exact List.mem_cons_of_mem _ (List.mem_append_left _ hn)
def LnAt (w : World) (g o : Nat) (f : Nat × Nat) : Prop := ∃ A c B d, w.cell? ⟨g, o, none⟩ = some (.slice A f.1 c) ∧ w.cell? ⟨g, o + 1, none⟩ = some (.slice B f.2 d)
def LnQ (f : Nat × Nat) : Prop := f.1 ≤ 17592186044416 ∧ f.2 ≤ 17592186044416
set_option maxRecDepth 100000 in
theorem open_len_w {n : Nat} {v : Value} {y : DataW H × List MemPlace} (h : DataW.trod enc Tryz.prog w base spare held n 34 [v] = some y) : ∃ A k c, v = .slice A k c ∧ (WOk 34 y.1 → k ≤ 17592186044416) := by
  obtain ⟨A, c, l, hcs, -, hq⟩ := open_slice_w (α := Unit) Tryz.underlying34 (k := 1) (by kernel_rfl) (by omega) (by_ := 8) (by kernel_rfl) (by omega) (fun _ _ _ _ => True) (fun _ => True) (fun _ _ _ _ _ _ _ _ _ => ⟨(), trivial, fun _ => trivial⟩) h
  exact ⟨A, l.length, c, by simpa using hcs, fun hw => (hq hw).1⟩
set_option maxRecDepth 100000 in
theorem open_fu_w {m : Nat} {cs : List Value} {y : DataW H × List MemPlace} (h : DataW.trod enc Tryz.prog w base spare held m 36 cs = some y) (g o : Nat) (hc : ∀ j, j < 2 → w.cell? ⟨g, o + j, none⟩ = cs[j]?) :
    ∃ f : Nat × Nat, LnAt w g o f ∧ (WOk 36 y.1 → LnQ f) := by
  obtain ⟨xs, n, rfl, rfl, hlen, hxl, hf⟩ := DataW.trod_struct Tryz.underlying36 h
  rw [cells_fu] at hlen
  match cs, hlen with
  | [v0, v1], _ =>
    have hxl2 : xs.length = 2 := hxl
    match xs, hxl2 with
    | [x0, x1], _ =>
      have t0 := hf 0 _ rfl
      have t1 := hf 1 _ rfl
      replace t0 : DataW.trod enc Tryz.prog w base spare held n 34 [v0] = some x0 := t0
      replace t1 : DataW.trod enc Tryz.prog w base spare held n 34 [v1] = some x1 := t1
      obtain ⟨A0, n0, c0, rfl, q0⟩ := open_len_w t0
      obtain ⟨A1, n1, c1, rfl, q1⟩ := open_len_w t1
      refine ⟨(n0, n1), ⟨A0, c0, A1, c1, hc 0 (by omega), hc 1 (by omega)⟩, fun hW => ?_⟩
      have hWf : ∀ n ∈ DataW.weightsEach Tryz.prog [34, 34] [x0.1, x1.1], n ≤ reachBytes := fun n hn => hW n (by
        unfold DataW.weights
        rw [Tryz.underlying36]
        exact hn)
      simp only [DataW.weightsEach, List.append_nil, List.mem_append] at hWf
      exact ⟨q0 fun n hn => hWf n (.inl hn), q1 fun n hn => hWf n (.inr hn)⟩
end
set_option maxRecDepth 100000 in
set_option maxHeartbeats 2000000 in
theorem types_few {H : Type} {enc : TypeId × Value → H} {w : World} {base : Nat} {held : Bool} {S : Nat → Prop} {m : Md} {x : MX} {d : DataW H} {p : List MemPlace} (h : DataW.Trod enc Tryz.prog w base (fun _ => true) held 33 (.agg (mdA m x)) d p) (hW : WOk 33 d) (hr : RdT w S x.TA 2 TyAt m.types) :
    ∀ f ∈ m.types, f.1.length ≤ 17592186044416 ∧ f.2.length ≤ 17592186044416 := by
  obtain ⟨fuel, hf⟩ := h
  replace hf : DataW.trod enc Tryz.prog w base (fun _ => true) held fuel 33 (mdA m x).toList = some (d, p) := hf
  obtain ⟨xs, n, rfl, hdp, hlen, hxl, hf⟩ := DataW.trod_struct Tryz.underlying33 hf
  have hxl3 : xs.length = 12 := hxl
  match xs, hxl3 with
  | [x0, x1, x2, x3, x4, x5, x6, x7, x8, x9, x10, x11], _ =>
    have t0 := hf 0 _ rfl
    replace t0 : DataW.trod enc Tryz.prog w base (fun _ => true) held n 22 [.slice x.TA m.types.length x.tc] = some x0 := t0
    obtain ⟨A, c, l, e, r, q⟩ := open_slice_w Tryz.underlying22 cells_fu (by omega) (by_ := 48) (by kernel_rfl) (by omega) LnAt LnQ (fun m cs y hm ht hl g o hc => open_fu_w ht g o hc) t0
    obtain ⟨e1, e2, e3⟩ : x.TA = A ∧ m.types.length = l.length ∧ x.tc = c := by simpa using e
    have hd : d = .agg [x0.1, x1.1, x2.1, x3.1, x4.1, x5.1, x6.1, x7.1, x8.1, x9.1, x10.1, x11.1] := (congrArg Prod.fst hdp)
    subst hd
    have hW0 : WOk 22 x0.1 := fun n hn => hW n (by
      unfold DataW.weights
      rw [Tryz.underlying33]
      show n ∈ DataW.weightsEach Tryz.prog (22 :: _) (x0.1 :: _)
      rw [DataW.weightsEach]
      exact List.mem_append_left _ hn)
    obtain ⟨-, hq⟩ := q hW0
    intro f hf
    obtain ⟨i, hi, rfl⟩ := List.mem_iff_getElem.1 hf
    obtain ⟨g, o, a1, -, -, B1, c1, B2, c2, z1, z2⟩ := hr.get hi
    obtain ⟨g', o', a2, -, -, D1, d1, D2, d2, y1, y2⟩ := r.get (i := i) (by omega)
    rw [e1, a2] at a1
    obtain ⟨rfl, rfl⟩ : g' = g ∧ o' = o := by simpa using a1
    have q1 := z1.symm.trans y1
    have q2 := z2.symm.trans y2
    simp only [Option.some.injEq, Value.slice.injEq] at q1 q2
    have := hq _ (List.getElem_mem (by omega : i < l.length))
    unfold LnQ at this
    omega
/-- A small module whose types' lists are within reach. -/
theorem lite_few {m : Md} (h : m.Lite) (hp : ∀ f ∈ m.types, f.1.length ≤ 17592186044416 ∧ f.2.length ≤ 17592186044416) : m.Few :=
  ⟨by have := h.ty; omega, by have := h.im; omega, by have := h.fn; omega, by have := h.tb; omega, by have := h.mm; omega, by have := h.gl; omega, by have := h.el; omega, by have := h.da; omega, hp⟩
end Go.Proofs.YtadnfekogmjieaaGreatDoor
