/-
  Layer 51, the laws: instructions in memory as a row that can be appended.
-/
import Derived.Test.YtadnfekogmjieaaGreatDoorELWM
import Derived.Test.YtadnfekogmjieaaGreatDoorELT1
set_option linter.unusedVariables false
set_option linter.unusedSimpArgs false
namespace Go.Proofs.YtadnfekogmjieaaGreatDoor
open Go.ChangeShapes Go.WideShapes Go.Deep Go.RowKit
open Mc (Pl Mi Mf Th Wt Im Md)
/-- Instructions in memory are a row of the cells that append copies. -/
theorem mv_row {W : World} {S : Nat → Prop} {A : Option Addr} {l : List Mi} (h : RdM W S A l) : ∃ L : List MV, L.map (·.1) = l ∧ Reads W W.heap.size 9 A L.length (L.flatMap encM) ∧ ∀ v ∈ L, MvRd S W v := by
  rcases Nat.eq_zero_or_pos l.length with h0 | h0
  · obtain rfl : l = [] := List.length_eq_zero_iff.1 h0
    exact ⟨[], rfl, RdS.reads encM_len (fun hl => absurd hl (by simp)), by simp⟩
  · obtain ⟨g, o, e, hs, hb, hc⟩ := h (by intro e; rw [e] at h0; simp at h0)
    have hE : ∀ i, i < l.length → ∃ v : MV, v.1 = l[i]?.getD Mc.mi0 ∧ (∀ j u, (encM v)[j]? = some u → W.cell? ⟨g, o + i * 9 + j, none⟩ = some u) ∧ MvRd S W v := fun i hi => by
      obtain ⟨D, c1, E, c2, T, c3, ha, hr, hd⟩ := hc i hi
      refine ⟨(l[i], (D, c1), (E, c2), T, c3), by simp [hi], fun j u hj => ha j u ?_, hr, hd⟩
      rw [← Array.getElem?_toList]; exact hj
    haveI : Inhabited MV := ⟨(hE 0 h0).choose⟩
    obtain ⟨V, hV⟩ := choose_lt hE
    have hlen : ((List.range l.length).map V).length = l.length := by simp
    refine ⟨(List.range l.length).map V, ?_, RdS.reads encM_len (fun hl => ⟨g, o, e, hb, fun i hi j u hj => ?_⟩), fun v hv => ?_⟩
    · apply List.ext_getElem
      · simp
      · intro i h1 h2
        have := (hV i h2).1
        simp [h2] at this ⊢
        exact this
    · have hi' : i < l.length := by rw [hlen] at hi; exact hi
      refine (hV i hi').2.1 j u ?_
      rw [List.getElem_map, List.getElem_range] at hj
      exact hj
    · obtain ⟨i, hi, rfl⟩ := List.mem_map.1 hv
      exact (hV i (List.mem_range.1 hi)).2.2
/-- Places in memory as a row. -/
theorem pl_row {W : World} {S : Nat → Prop} {A : Option Addr} {l : List Pl} (h : RdP W S A l) : Reads W W.heap.size 2 A l.length (l.flatMap encPl) := by
  refine RdS.reads (fun _ => rfl) fun hl => ?_
  obtain ⟨g, o, e, -, hb, hc⟩ := h hl
  refine ⟨g, o, e, hb, fun i hi j v hj => ?_⟩
  have hj2 : j < 2 := by
    rcases Nat.lt_or_ge j 2 with h2 | h2
    · exact h2
    · rw [List.getElem?_eq_none (by simpa [encPl] using h2)] at hj; cases hj
  obtain ⟨h1, h2⟩ := hc i hi
  match j, hj2, hj with
  | 0, _, hj => injection hj with hj; rw [← hj]; exact h1
  | 1, _, hj => injection hj with hj; rw [← hj]; exact h2
end Go.Proofs.YtadnfekogmjieaaGreatDoor
