/-
  Parameters that are slices of values, of types, of bits.
-/
import Derived.Test.YtilflcbmejhepaaDoorValFrame
import Derived.Test.YtilflcbmejhepaaDoorValLaws3
import Derived.ChangeSlices
import Derived.Deep.Slices
import Derived.Deep.Fields
import Derived.ChangeSame
set_option linter.unusedVariables false
set_option linter.unusedSimpArgs false
namespace Go.Proofs.YtilflcbmejhepaaDoor
open Go.ChangeShapes Go.WideShapes Go.ChangeAt Go.WideMaps Go.WideElems Go.RowKit Go.Joins Go.Deep

theorem spot_of_cell {w : World} {a : Addr} {v : Value} (h : w.cell? a = some v) : a.spot = none ∧ a.block < w.heap.size := by
  unfold World.cell? at h
  split at h
  · rename_i c t f hb
    split at h
    · cases h
    · rename_i hs
      refine ⟨by simpa using hs, ?_⟩
      rcases Nat.lt_or_ge a.block w.heap.size with h1 | h1
      · exact h1
      · rw [Array.getElem?_eq_none h1] at hb; cases hb
  · cases h
theorem add_plain (g o n : Nat) : (⟨g, o, none⟩ : Addr).add n = ⟨g, o + n, none⟩ := by
  unfold Addr.add
  split
  · rename_i h; subst h; rfl
  · rfl
section
variable {H : Type} {enc : TypeId × Value → H} {w : World} {base : Nat} {held : Bool} {r : Reach} {b0 : Nat} {v : Value} {d : DataW H} {p : List MemPlace}
theorem row_cells {k : IntKind} {x : Addr} {l : Nat} {zs : List Int} (hlz : l ≤ zs.length) (hcell : ∀ i, i < zs.length → w.cell? (x.add i) = some (.int k (zs.getD i 0))) : RdC w w.heap.size (some x) ((zs.take l).map (Value.int k)) := fun hne => by
  have hp : 0 < zs.length := by
    rcases zs with _ | _
    · simp at hne
    · simp
  have h0 := hcell 0 hp
  obtain ⟨g, o, sp⟩ := x
  have hx0 : (⟨g, o, sp⟩ : Addr).add 0 = ⟨g, o, sp⟩ := by unfold Addr.add; simp
  rw [hx0] at h0
  obtain ⟨hs, hb⟩ := spot_of_cell h0
  dsimp only at hs hb
  subst hs
  refine ⟨g, o, rfl, hb, fun i hi => ?_⟩
  have hi2 : i < zs.length := by simp at hi; omega
  have := hcell i hi2
  rw [add_plain] at this
  rw [this]
  simp [List.getD_eq_getElem?_getD, List.getElem?_eq_getElem hi2]
theorem open_vtys (hv : Value.okWide Tryd.prog w r b0 36 v) (h : DataW.Trod enc Tryd.prog w base (fun _ => true) held 36 v d p) :
    ∃ (A : Option Addr) (c : Nat) (ts : List Int), v = .slice A ts.length c ∧ RdC w w.heap.size A (vtys ts) ∧ ts.length ≤ 9223372036854775807 := by
  obtain ⟨a0, len0, cap0, rfl⟩ := okWide_slice Tryd.underlying36 hv
  obtain ⟨fuel, hf⟩ := h
  rcases open_ints Tryd.underlying36 Tryd.underlying22 (by kernel_rfl) hf with ⟨hcs, _⟩ | ⟨x, l, c, zs, hcs, _, hl, hm, hz, _, hcell, hwz⟩
  · simp [Value.cells] at hcs
    obtain ⟨rfl, rfl, rfl⟩ := hcs
    exact ⟨none, 0, [], rfl, fun h => absurd rfl h, by simp⟩
  · simp [Value.cells] at hcs
    obtain ⟨rfl, rfl, rfl⟩ := hcs
    have hlz : len0 ≤ zs.length := by rw [hz]; split <;> omega
    refine ⟨some x, cap0, zs.take len0, by simp [hlz], row_cells hlz hcell, by unfold maxLen at hm; simp; omega⟩
theorem open_ubits (hv : Value.okWide Tryd.prog w r b0 37 v) (h : DataW.Trod enc Tryd.prog w base (fun _ => true) held 37 v d p) :
    ∃ (A : Option Addr) (c : Nat) (bs : List Nat), v = .slice A bs.length c ∧ RdC w w.heap.size A (ubits bs) ∧ bs.length ≤ 9223372036854775807 ∧ ∀ n ∈ bs, n < 18446744073709551616 := by
  obtain ⟨a0, len0, cap0, rfl⟩ := okWide_slice Tryd.underlying37 hv
  obtain ⟨fuel, hf⟩ := h
  rcases open_ints Tryd.underlying37 Tryd.underlying23 (by kernel_rfl) hf with ⟨hcs, _⟩ | ⟨x, l, c, zs, hcs, _, hl, hm, hz, _, hcell, hwz⟩
  · simp [Value.cells] at hcs
    obtain ⟨rfl, rfl, rfl⟩ := hcs
    exact ⟨none, 0, [], rfl, fun h => absurd rfl h, by simp, by simp⟩
  · simp [Value.cells] at hcs
    obtain ⟨rfl, rfl, rfl⟩ := hcs
    have hlz : len0 ≤ zs.length := by rw [hz]; split <;> omega
    have hu : ubits ((zs.take len0).map Int.toNat) = (zs.take len0).map (Value.int .u64) := by
      unfold ubits
      rw [List.map_map]
      refine List.map_congr_left fun n hn => ?_
      have := u64_of n (hwz n (List.mem_of_mem_take hn))
      simp only [Function.comp_apply, this]
    refine ⟨some x, cap0, (zs.take len0).map Int.toNat, by simp [hlz], by rw [hu]; exact row_cells hlz hcell, by unfold maxLen at hm; simp; omega, fun n hn => ?_⟩
    obtain ⟨m, hm1, rfl⟩ := List.mem_map.1 hn
    exact u64_lt (hwz m (List.mem_of_mem_take hm1))
theorem cells_value : Tryd.prog.cellsOf 25 = 2 := by kernel_rfl
instance : Inhabited Val.V := ⟨⟨0, 0⟩⟩
set_option maxRecDepth 100000 in
theorem open_vals (hv : Value.okWide Tryd.prog w r b0 35 v) (h : DataW.Trod enc Tryd.prog w base (fun _ => true) held 35 v d p) :
    ∃ (A : Option Addr) (c : Nat) (l : List Val.V), v = .slice A l.length c ∧ RdV w w.heap.size A l ∧ l.length ≤ 9223372036854775807 ∧ ∀ x ∈ l, x.n < 18446744073709551616 := by
  obtain ⟨a0, len0, cap0, rfl⟩ := okWide_slice Tryd.underlying35 hv
  obtain ⟨fuel, hf⟩ := h
  rcases DataW.trod_slice Tryd.underlying35 hf with ⟨hcs, _⟩ | ⟨a, len, cap, elems, rest, n, _, hcs, _, hb, hl, hm, hlen, hel, _⟩
  · simp [Value.cells] at hcs
    obtain ⟨rfl, rfl, rfl⟩ := hcs
    exact ⟨none, 0, [], rfl, fun h => absurd rfl h, by simp, by simp⟩
  · simp [Value.cells] at hcs
    obtain ⟨rfl, rfl, rfl⟩ := hcs
    rw [cells_value] at hel
    have hE : ∀ i, i < len0 → ∃ x : Val.V, w.cell? ((a.add (i * 2)).add 0) = some (.int .i64 x.t) ∧ w.cell? ((a.add (i * 2)).add 1) = some (.int .u64 (x.n : Int)) ∧ x.n < 18446744073709551616 := by
      intro i hi
      have hxi := hel i hi
      have hie : i < elems.length := by omega
      rw [List.getElem?_eq_getElem hie] at hxi
      obtain ⟨cs', hc, ht⟩ := Option.bind_eq_some_iff.1 hxi
      obtain ⟨_, hcl, hat⟩ := World.cells?_some hc
      obtain ⟨ys, m, _, _, hlen2, hxl, hf2⟩ := DataW.trod_struct Tryd.underlying25 ht
      rw [cells_value] at hlen2
      match cs', hlen2 with
      | [v0, v1], _ =>
        have hxl2 : ys.length = 2 := hxl
        match ys, hxl2 with
        | [y0, y1], _ =>
          have t0 := hf2 0 _ rfl
          have t1 := hf2 1 _ rfl
          replace t0 : DataW.trod enc Tryd.prog w base (fun _ => true) held m 22 [v0] = some y0 := t0
          replace t1 : DataW.trod enc Tryd.prog w base (fun _ => true) held m 23 [v1] = some y1 := t1
          obtain ⟨t, e0, _, _⟩ := DataW.trod_int Tryd.underlying22 t0
          obtain ⟨u, e1, _, wf⟩ := DataW.trod_int Tryd.underlying23 t1
          simp at e0 e1
          subst e0 e1
          have q0 := hat 0 (by omega)
          have q1 := hat 1 (by omega)
          exact ⟨⟨t, u.toNat⟩, q0, by rw [u64_of u wf]; exact q1, u64_lt wf⟩
    obtain ⟨V, hV⟩ := choose_lt hE
    have hlen3 : ((List.range len0).map V).length = len0 := by simp
    refine ⟨some a, cap0, (List.range len0).map V, by rw [hlen3], fun hne => ?_, by rw [hlen3]; unfold maxLen at hm; omega, fun x hx => ?_⟩
    · have h0 : 0 < len0 := by
        rcases Nat.eq_zero_or_pos len0 with h0 | h0
        · subst h0; exact absurd rfl hne
        · exact h0
      obtain ⟨z0, _, _⟩ := hV 0 h0
      rw [Nat.zero_mul] at z0
      have hz : (a.add 0).add 0 = a := by unfold Addr.add; simp
      rw [hz] at z0
      obtain ⟨hsp, hbl⟩ := spot_of_cell z0
      obtain ⟨g, o, sp⟩ := a
      dsimp only at hsp hbl
      subst hsp
      refine ⟨g, o, rfl, hbl, fun k hk => ?_⟩
      have hkl : k < len0 := by simpa using hk
      obtain ⟨y0, y1, _⟩ := hV k hkl
      rw [add_plain, add_plain] at y0 y1
      have e : ((List.range len0).map V)[k] = V k := by simp
      rw [e]
      exact ⟨y0, y1⟩
    · obtain ⟨k, hk, rfl⟩ := List.mem_map.1 hx
      exact (hV k (by simpa using hk)).2.2
end
end Go.Proofs.YtilflcbmejhepaaDoor
