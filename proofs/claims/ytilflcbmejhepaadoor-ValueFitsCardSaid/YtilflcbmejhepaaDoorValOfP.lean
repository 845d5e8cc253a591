/-
  Layer 27: Of, step by step (plain).
-/
import Derived.Test.YtilflcbmejhepaaDoorValBits
set_option linter.unusedVariables false
namespace Go.Proofs.YtilflcbmejhepaaDoor.Val
open Go.Proofs.YtilflcbmejhepaaDoor

theorem ofs_snoc : ∀ (l : List Nat) (ts : List Int) (i : Nat) (ha : i < l.length) (hb : i < ts.length), ofs (l.take (i + 1)) (ts.take (i + 1)) = ofs (l.take i) (ts.take i) ++ [⟨ts[i], low ts[i] l[i]⟩]
  | [], _, _, ha, _ => by simp at ha
  | n :: l, [], _, _, hb => by simp at hb
  | n :: l, t :: ts, 0, _, _ => by simp [ofs]
  | n :: l, t :: ts, i + 1, ha, hb => by
    have := ofs_snoc l ts i (by simpa using ha) (by simpa using hb)
    simp only [List.take_succ_cons, ofs, this, List.getElem_cons_succ, List.cons_append]
theorem ofv_all {l : List Nat} {ts : List Int} (h : l.length = ts.length) (hv : ∀ k (hk : k < ts.length), valB ts[k] = true) : ofv l ts = ofs l ts := by
  unfold ofv
  rw [if_neg (by omega), if_pos]
  rw [List.all_eq_true]
  intro t ht
  obtain ⟨k, hk, rfl⟩ := List.getElem_of_mem ht
  exact hv k hk
theorem ofv_bad {l : List Nat} {ts : List Int} {k : Nat} (hk : k < ts.length) (hv : valB ts[k] = false) : ofv l ts = [] := by
  unfold ofv
  split
  · rfl
  · rw [if_neg]
    intro h
    rw [List.all_eq_true] at h
    have := h ts[k] (List.getElem_mem _)
    rw [hv] at this
    cases this
theorem ofv_len_ne {l : List Nat} {ts : List Int} (h : l.length ≠ ts.length) : ofv l ts = [] := by unfold ofv; rw [if_pos h]
end Go.Proofs.YtilflcbmejhepaaDoor.Val
