/-
  The cells of a row of tokens.
-/
import Derived.Test.YtnjhbhbohnjckaaTokLex
import Derived.Deep.RegionHeld3
set_option linter.unusedVariables false
namespace Go.Proofs.Ytnjhbhbohnjckaa
open Go.RowKit

theorem info_rtok : (Try.prog.info? 82).map (fun i => (i.zero, i.size, i.bytes)) = some (some (.agg #[.int .i64 0, .int .i64 0, .string ByteArray.empty]), 3, 32) := by kernel_rfl
theorem toks_len (l : List Tok.Tk) : (toks l).length = l.length * 3 := by
  induction l with
  | nil => rfl
  | cons t l ih => rw [show toks (t :: l) = tokCells t ++ toks l from rfl, List.length_append, ih]; simp [tokCells]; omega
theorem toks_get : ∀ (l : List Tok.Tk) (k : Nat) (h : k < l.length), (toks l)[k * 3]? = some (.int .i64 (l[k].kind : Int)) ∧ (toks l)[k * 3 + 1]? = some (.int .i64 (l[k].pos : Int)) ∧ (toks l)[k * 3 + 2]? = some (.string ⟨l[k].text.toArray⟩) := by
  intro l
  induction l with
  | nil => intro k h; simp at h
  | cons t l ih =>
    intro k h
    rw [show toks (t :: l) = tokCells t ++ toks l from rfl]
    match k, h with
    | 0, _ => simp [tokCells]
    | k + 1, h =>
      have := ih k (by simpa using h)
      rw [show (k + 1) * 3 = 3 + k * 3 from by omega]
      refine ⟨?_, ?_, ?_⟩
      · rw [List.getElem?_append_right (by simp [tokCells])]; simpa [tokCells] using this.1
      · rw [List.getElem?_append_right (by simp [tokCells]; omega)]
        simpa [tokCells, show 3 + k * 3 + 1 - 3 = k * 3 + 1 from by omega] using this.2.1
      · rw [List.getElem?_append_right (by simp [tokCells]; omega)]
        simpa [tokCells, show 3 + k * 3 + 2 - 3 = k * 3 + 2 from by omega] using this.2.2
theorem toks_take (l : List Tok.Tk) (k : Nat) (h : k < l.length) : toks (l.take (k + 1)) = toks (l.take k) ++ [.int .i64 (l[k].kind : Int), .int .i64 (l[k].pos : Int), .string ⟨l[k].text.toArray⟩] := by
  rw [List.take_succ_eq_append_getElem h, toks_snoc]; rfl

/-- The three cells of the k-th token of an owned row. -/
theorem own_tok {w : World} {base : Nat} {e : TypeId} {A : Option Addr} {c : Nat} {L : List Tok.Tk} (h : w.ownsRow base e 3 (.slice A L.length c) L.length (toks L)) (k : Nat) (hk : k < L.length) :
    ∃ g, A = some ⟨g, 0, none⟩ ∧ base ≤ g ∧ g < w.heap.size ∧ w.cell? ⟨g, k * 3, none⟩ = some (.int .i64 (L[k].kind : Int)) ∧ w.cell? ⟨g, k * 3 + 1, none⟩ = some (.int .i64 (L[k].pos : Int)) ∧ w.cell? ⟨g, k * 3 + 2, none⟩ = some (.string ⟨L[k].text.toArray⟩) := by
  obtain ⟨g, cap, hv, hb, hlt⟩ := h.form (by omega)
  injection hv with hA _ hc
  subst hA hc
  obtain ⟨h1, h2, h3⟩ := toks_get L k hk
  exact ⟨g, rfl, hb, hlt, (h.cellAt _ (by omega)).trans h1, (h.cellAt _ (by omega)).trans h2, (h.cellAt _ (by omega)).trans h3⟩

def teq (a b : Tok.Tk) : Bool := a.kind == b.kind && a.pos == b.pos && a.text == b.text
theorem teq_iff (a b : Tok.Tk) : teq a b = true ↔ a = b := by
  obtain ⟨k1, p1, t1⟩ := a
  obtain ⟨k2, p2, t2⟩ := b
  simp [teq, and_assoc]
theorem teq_self (a : Tok.Tk) : teq a a = true := (teq_iff a a).2 rfl

end Go.Proofs.Ytnjhbhbohnjckaa
