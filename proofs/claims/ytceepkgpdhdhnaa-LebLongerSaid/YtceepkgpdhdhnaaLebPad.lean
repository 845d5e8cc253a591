/-
  Plain laws of padded LEB128 encodings; what a store and an append do to two rows of the call's own.
-/
import Derived.Test.YtceepkgpdhdhnaaWords
import Derived.Test.YtceepkgpdhdhnaaLebEnc
set_option linter.unusedVariables false
namespace Go.Proofs.Ytceepkgpdhdhnaa
open Go.RowKit

namespace Leb
/-- The last byte gets its high bit, and one more byte follows. -/
def pad (l : List UInt8) (m : Nat) (f : UInt8) : List UInt8 := l.set m (UInt8.ofNat ((l.getD m 0).toNat % 128 + 128)) ++ [f]
theorem pad_len {l : List UInt8} {m : Nat} {f : UInt8} (h : l.length = m + 1) : (pad l m f).length = m + 2 := by simp [pad, h]
theorem val_set (l : List UInt8) (m : Nat) (y : UInt8) (hy : y.toNat % 128 = (l.getD m 0).toNat % 128) : ∀ k, val (l.set m y) k = val l k := by
  intro k
  induction k with
  | zero => rfl
  | succ k ih =>
    rw [val, val, ih]
    by_cases hk : k = m
    · subst hk
      by_cases hl : k < l.length
      · have e : ((l.set k y).getD k 0) = y := by simp [hl]
        rw [e, hy]
      · have e : l.set k y = l := List.set_eq_of_length_le (by omega)
        rw [e]
    · have e : (l.set m y).getD k 0 = l.getD k 0 := by simp [Ne.symm hk]
      rw [e]
theorem pad_enc {l : List UInt8} {m v : Nat} {f : UInt8} (h : Enc l v) (hl : l.length = m + 1) (hf : f.toNat < 128) : Enc (pad l m f) (v + f.toNat * 128 ^ (m + 1)) := by
  have e0 : (UInt8.ofNat ((l.getD m 0).toNat % 128 + 128)).toNat = (l.getD m 0).toNat % 128 + 128 := by rw [UInt8.toNat_ofNat']; omega
  have hlen : (pad l m f).length = m + 2 := pad_len hl
  refine ⟨by omega, ?_, ?_, ?_⟩
  · intro j hj hlt
    rw [hlen] at hlt
    have ej : (pad l m f)[j] = (l.set m (UInt8.ofNat ((l.getD m 0).toNat % 128 + 128)))[j]'(by simp; omega) := List.getElem_append_left (by simp; omega)
    rw [ej, List.getElem_set]
    split
    · rw [e0]; omega
    · exact h.highs j (by omega) (by omega)
  · rw [hlen]
    have : (pad l m f).getD (m + 2 - 1) 0 = f := by
      unfold pad
      simp only [List.getD_eq_getElem?_getD]
      rw [List.getElem?_append_right (by simp; omega)]
      simp [hl]
    rw [this]; exact hf
  · rw [hlen, val]
    have : (pad l m f).getD (m + 1) 0 = f := by
      unfold pad
      simp only [List.getD_eq_getElem?_getD]
      rw [List.getElem?_append_right (by simp; omega)]
      simp [hl]
    rw [this, Nat.mod_eq_of_lt hf]
    have e1 : val (pad l m f) (m + 1) = v := by
      unfold pad
      rw [val_append _ _ _ (by simp; omega), val_set _ _ _ (by rw [e0]; omega), ← hl, h.value]
    rw [e1]
theorem pad_sOf {l : List UInt8} {m v : Nat} {f : UInt8} (h : Enc l v) (hl : l.length = m + 1) (hf : f = if sOf l v < 0 then 127 else 0) :
    sOf (pad l m f) (v + f.toNat * 128 ^ (m + 1)) = sOf l v := by
  have hlen : (pad l m f).length = m + 2 := pad_len hl
  have hlast : (pad l m f).getD (m + 2 - 1) 0 = f := by
    unfold pad
    simp only [List.getD_eq_getElem?_getD]
    rw [List.getElem?_append_right (by simp; omega)]
    simp [hl]
  have hv : v < 128 ^ (m + 1) := by have := val_lt l (m + 1); rw [← hl, h.value] at this; rw [← hl]; exact this
  have ec : ((128 : Int) ^ (m + 1)) = ((128 ^ (m + 1) : Nat) : Int) := by simp
  have ec2 : ((128 : Int) ^ (m + 2)) = 128 * ((128 ^ (m + 1) : Nat) : Int) := by rw [Int.pow_succ, ec]; omega
  unfold sOf at hf ⊢
  rw [hlen, hlast, ec2]
  rw [hl] at hf ⊢
  rw [ec] at hf ⊢
  generalize (128 : Nat) ^ (m + 1) = Q at *
  generalize (l.getD (m + 1 - 1) 0).toNat = y at *
  by_cases hy : 64 ≤ y
  · rw [if_pos hy] at hf ⊢
    rw [if_pos (by omega)] at hf
    subst hf
    rw [if_pos (by decide)]
    simp only [show (127 : UInt8).toNat = 127 from rfl]
    omega
  · rw [if_neg hy] at hf ⊢
    rw [if_neg (by omega)] at hf
    subst hf
    rw [if_neg (by decide)]
    simp only [show (0 : UInt8).toNat = 0 from rfl]
    omega
theorem longer_u {l : List UInt8} {n : Nat} (h : Enc l n) (hl : l.length ≤ 10) (hn : n < 18446744073709551616) : uF l 64 = ((n : Int), (l.length : Int), 0) := by
  have := uF_enc (rest := []) (b := 64) h (by omega) (by omega) (by omega)
  rw [List.append_nil, if_pos (by omega)] at this
  exact this
theorem longer_s {l : List UInt8} {v : Nat} {s : Int} (h : Enc l v) (hs : sOf l v = s) (hl : l.length ≤ 10) (h0 : -9223372036854775808 ≤ s) (h1 : s ≤ 9223372036854775807) : sF l 64 = (s, (l.length : Int), 0) := by
  have := sF_enc (rest := []) (b := 64) h (by omega) (by omega) (by omega) (by rw [hs]; unfold FitsS; simp only [show (2 : Nat) ^ (64 - 1) = 9223372036854775808 from rfl]; omega)
  rw [List.append_nil, hs] at this
  exact this
end Leb

theorem grown_setCell (w : World) (p : Addr) (u : Value) : w.grownBy (w.setCell p u) (some p.block) :=
  ⟨rfl, rfl, rfl, by simp [World.setCell], fun k hk hne => Below.heap_setCell w p u k (by rintro rfl; exact hne rfl)⟩
theorem grown_trans_row {a b c : World} {row : Option Nat} (h : a.grownBy b row) (k : b.grownBy c row) : a.grownBy c row :=
  ⟨k.os.trans h.os, k.tape.trans h.tape, k.output.trans h.output, Nat.le_trans h.size k.size, fun i hi hne => (k.block i (Nat.lt_of_lt_of_le hi h.size) hne).trans (h.block i hi hne)⟩

/-- Two rows of the call's own: va holds la, vb holds lb, in different blocks; what was there is as it was. -/
def TwoRows (w : World) (g ca m : Nat) (la : List UInt8) (vb : Value) (lb : List UInt8) (wr : World) : Prop :=
  la.length = m + 1 ∧ wr.ownsRow w.heap.size 5 1 (.slice (some ⟨g, 0, none⟩) (m + 1) ca) (m + 1) (rb la) ∧ wr.ownsRow w.heap.size 5 1 vb lb.length (rb lb) ∧ vb.ownBlock ≠ some g ∧ Below w.heap.size w wr

theorem TwoRows.facts {w wr : World} {g ca m : Nat} {la : List UInt8} {vb : Value} {lb : List UInt8} (h : TwoRows w g ca m la vb lb wr) :
    wr.cell? ⟨g, m, none⟩ = some (.int .u8 ((la.getD m 0).toNat : Int)) ∧ wr.frozen? ⟨g, m, none⟩ = false ∧ w.heap.size ≤ wr.heap.size := by
  obtain ⟨hl, ha, hb, hne, hbel⟩ := h
  refine ⟨?_, ha.frozenAt m, hbel.size⟩
  rw [ha.cellAt m (by omega), rb_get la m (by omega)]
  simp [bv, hl]

/-- Behind the store the row holds the byte with its high bit. -/
theorem TwoRows.stored {w wr : World} {g ca m : Nat} {la : List UInt8} {vb : Value} {lb : List UInt8} (h : TwoRows w g ca m la vb lb wr) (x : Int) (hx : x = ((la.getD m 0).toNat : Int) % 128 + 128) :
    (wr.setCell ⟨g, m, none⟩ (.int .u8 x)).ownsRow w.heap.size 5 1 (.slice (some ⟨g, 0, none⟩) (m + 1) ca) (m + 1) (rb (la.set m (UInt8.ofNat ((la.getD m 0).toNat % 128 + 128)))) := by
  obtain ⟨hl, ha, hb, hne, hbel⟩ := h
  have := ha.stored m (.int .u8 x)
  subst hx
  rw [byte_of _ (by omega) (by omega)] at this ⊢
  have e : ((((la.getD m 0).toNat : Int) % 128 + 128)).toNat = (la.getD m 0).toNat % 128 + 128 := by omega
  rw [e] at this ⊢
  rw [rb, List.map_set]
  exact this.1

theorem TwoRows.padded {w wr w2 : World} {g ca m c2 : Nat} {la : List UInt8} {vb : Value} {lb : List UInt8} {A2 : Option Addr} {f : UInt8} {x : Value} (h : TwoRows w g ca m la vb lb wr)
    (hown : w2.ownsRow w.heap.size 5 1 (.slice A2 (m + 1 + 1) c2) (m + 1 + 1) (rb (la.set m (UInt8.ofNat ((la.getD m 0).toNat % 128 + 128)) ++ [f])))
    (hg : (wr.setCell ⟨g, m, none⟩ x).grownBy w2 (some g)) (hat : Value.ownBlock (.slice A2 (m + 1 + 1) c2) = some g ∨ Value.ownBlock (.slice A2 (m + 1 + 1) c2) = some (wr.heap.size + 1)) :
    ∃ g', A2 = some ⟨g', 0, none⟩ ∧ TwoRows w g' c2 (m + 1) (Leb.pad la m f) vb lb w2 := by
  obtain ⟨hl, ha, hb, hne, hbel⟩ := h
  obtain ⟨g', hA, hb0, hg1, _⟩ := own_at hown (by omega)
  subst hA
  have hgr : wr.grownBy w2 (some g) := grown_trans_row (grown_setCell wr ⟨g, m, none⟩ x) hg
  have hga : w.heap.size ≤ g := (ha.lt g rfl).1
  refine ⟨g', rfl, Leb.pad_len hl, hown, hb.kept hgr (.inr hne), ?_, hbel.grown hgr hbel.size (by intro k hk; injection hk with hk; omega)⟩
  intro he
  have hb2 := hb.lt g' he
  rcases hat with hat | hat
  · simp [Value.ownBlock] at hat; subst hat; exact hne he
  · have : g' = wr.heap.size + 1 := by simpa [Value.ownBlock] using hat
    omega

theorem TwoRows.swap {w wr : World} {g ca m g2 cb m2 : Nat} {la lb : List UInt8} (h : TwoRows w g ca m la (.slice (some ⟨g2, 0, none⟩) (m2 + 1) cb) lb wr) (hl : lb.length = m2 + 1) :
    TwoRows w g2 cb m2 lb (.slice (some ⟨g, 0, none⟩) (m + 1) ca) la wr := by
  obtain ⟨h1, h2, h3, h4, h5⟩ := h
  rw [hl] at h3
  rw [← h1] at h2
  refine ⟨hl, h3, ?_, ?_, h5⟩
  · rw [← h1]; exact h2
  · intro he
    apply h4
    simp [Value.ownBlock] at he ⊢
    exact he.symm
theorem TwoRows.readA {w wr : World} {g ca m : Nat} {la : List UInt8} {vb : Value} {lb : List UInt8} (h : TwoRows w g ca m la vb lb wr) : RdB wr wr.heap.size (some ⟨g, 0, none⟩) la ∧ la.length = m + 1 := by
  obtain ⟨hl, ha, hb, hne, hbel⟩ := h
  rw [← hl] at ha
  exact ⟨RdB.of_own ha, hl⟩
theorem TwoRows.made {w w2 w4 : World} {g ca m : Nat} {la : List UInt8} {vb : Value} {lb : List UInt8} (hl : la.length = m + 1) (h2 : w2.ownsRow w.heap.size 5 1 (.slice (some ⟨g, 0, none⟩) la.length ca) la.length (rb la))
    (hb : Below w.heap.size w w2) (h24 : Below w2.heap.size w2 w4) (h4 : w4.ownsRow w2.heap.size 5 1 vb lb.length (rb lb)) : TwoRows w g ca m la vb lb w4 := by
  rw [hl] at h2
  have hg := h2.lt g rfl
  refine ⟨hl, own_below h2 h24 (Nat.le_refl _), own_base h4 hb.size, ?_, hb.trans (h24.mono hb.size)⟩
  intro he
  have := h4.lt g he
  omega
end Go.Proofs.Ytceepkgpdhdhnaa
