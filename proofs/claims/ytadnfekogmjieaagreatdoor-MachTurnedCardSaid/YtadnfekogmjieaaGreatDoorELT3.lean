/-
  Layer 51, the laws: rows that were appended, read as places and as instructions.
-/
import Derived.Test.YtadnfekogmjieaaGreatDoorELT2
set_option linter.unusedVariables false
set_option linter.unusedSimpArgs false
namespace Go.Proofs.YtadnfekogmjieaaGreatDoor
open Go.ChangeShapes Go.WideShapes Go.Deep Go.RowKit
open Mc (Pl Mi Mf Th Wt Im Md)
theorem own_pl {W : World} {base : Nat} {t : TypeId} {A : Option Addr} {c : Nat} {l : List Pl} (h : W.ownsRow base t 2 (.slice A l.length c) l.length (l.flatMap encPl)) : RdP W (fun g => base ≤ g) A l := fun hne => by
  obtain ⟨g, o, e, hb, hc⟩ := own_rds encPl_len (by omega) h hne
  refine ⟨g, o, e, by subst e; exact (h.lt g rfl).1, hb, fun i hi => ⟨?_, ?_⟩⟩
  · have := hc i hi 0 _ rfl
    rwa [Nat.add_zero] at this
  · exact hc i hi 1 _ rfl
theorem own_mv {W : World} {base : Nat} {t : TypeId} {A : Option Addr} {c : Nat} {S : Nat → Prop} {L : List MV} (h : W.ownsRow base t 9 (.slice A L.length c) L.length (L.flatMap encM)) (hS : ∀ g, base ≤ g → S g) (hr : ∀ v ∈ L, MvRd S W v) : RdM W S A (L.map (·.1)) := fun hne => by
  obtain ⟨g, o, e, hb, hc⟩ := own_rds encM_len (by omega) h (by intro e; rw [e] at hne; exact hne rfl)
  refine ⟨g, o, e, by subst e; exact hS g (h.lt g rfl).1, hb, fun i hi => ?_⟩
  have hi' : i < L.length := by simpa using hi
  rw [List.getElem_map]
  obtain ⟨h1, h2⟩ := hr _ (List.getElem_mem hi')
  exact ⟨L[i].2.1.1, L[i].2.1.2, L[i].2.2.1.1, L[i].2.2.1.2, L[i].2.2.2.1, L[i].2.2.2.2, fun j v hj => hc i hi' j v (by rw [← Array.getElem?_toList] at hj; exact hj), h1, h2⟩
end Go.Proofs.YtadnfekogmjieaaGreatDoor
