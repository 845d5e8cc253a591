/-
  A byte buffer that the law makes itself: what the world holds of it; long's contract.
-/
import Derived.Test.YtngdfcommoenkaaTokPlacesP
import Derived.Test.YtngdfcommoenkaaTokOurs
import Derived.Lib.BufferWrite
import Derived.Laws.MakeOwn
import Derived.Laws.CopyOwn
import Derived.Deep.RegionHeld3
set_option linter.unusedVariables false
namespace Go.Proofs.Ytngdfcommoenkaa
open Go.RowKit

def BufAt (W : World) (g : Nat) (B : List UInt8) : Prop := W.heap[g]? = some (.cells (rb B).toArray 5 (0, 0))
theorem buf_make_run (n : Nat) (hn : n ≤ 1000000) (W : World) : (Instr.makeSlice 37 (.int .i64 (n : Int)) (.int .i64 (n : Int))).run Try.prog W = .ok (.slice (some ⟨W.heap.size, 0, none⟩) n n) (W.alloc (.cells (rb (List.replicate n 0)).toArray 5)) := by
  obtain ⟨i0, hi0, hz0, hz1, hz2⟩ := info_parts info_u8
  have h := run_make (P := Try.prog) W 37 5 i0 (.int .u8 0) Try.underlying37 hi0 hz0 .i64 .i64 n n (by omega) (by omega) (by rw [hz2]; omega) (by omega)
  have hm : madeCells (Value.int .u8 0).cells (Int.toNat (n : Int) * i0.size) = (rb (List.replicate n 0)).toArray := by
    rw [hz1]
    apply Array.ext
    · simp [madeCells, rb]
    · intro i h1 h2
      simp [madeCells, rb, Value.cells, bv, Nat.mod_one]
  rw [hm] at h
  exact h
theorem buf_new (W : World) (B : List UInt8) : BufAt (W.alloc (.cells (rb B).toArray 5)) W.heap.size B := by
  unfold BufAt
  exact heap_alloc_new W _
theorem buf_cell {W : World} {g : Nat} {B : List UInt8} (h : BufAt W g B) (i : Nat) (hi : i < B.length) : W.cell? ⟨g, i, none⟩ = some (.int .u8 (B[i].toNat : Int)) := by
  rw [cell_of_row W g i _ _ _ h]
  simp [rb, bv, hi]
theorem buf_free {W : World} {g : Nat} {B : List UInt8} (h : BufAt W g B) (i : Nat) : W.frozen? ⟨g, i, none⟩ = false := frozen_of_row W g i _ _ h
theorem buf_set {W : World} {g : Nat} {B : List UInt8} (h : BufAt W g B) (i : Nat) (c : UInt8) : BufAt (W.setCell ⟨g, i, none⟩ (.int .u8 (c.toNat : Int))) g (B.set i c) := by
  unfold BufAt
  rw [Go.heap_setCell_same W g i _ _ _ h]
  congr 2
  simp [rb, bv]
theorem buf_rd {W : World} {g : Nat} {B : List UInt8} (h : BufAt W g B) : RdB W W.heap.size (some ⟨g, 0, none⟩) B := by
  have hlt : g < W.heap.size := by
    unfold BufAt at h
    by_cases hl : g < W.heap.size
    · exact hl
    · rw [Array.getElem?_eq_none (by omega)] at h; cases h
  refine ⟨by rw [rb_length]; simp, fun hp => ⟨_, rfl, hlt, fun j u hj => ?_⟩⟩
  exact World.news_of_block h j u (by simpa using hj)
theorem buf_str {W : World} {g : Nat} {B : List UInt8} (h : BufAt W g B) (n : Nat) (hn : B.length = n) : (convert 37 9 (.slice (some ⟨g, 0, none⟩) n n)).run Try.prog W = .ok (.string ⟨B.toArray⟩) W := by
  subst hn
  exact run_string_of_bytes W _ _ 5 Try.underlying37 Try.underlying5 Try.underlying9 (buf_rd h) _
theorem buf_lt {W : World} {g : Nat} {B : List UInt8} (h : BufAt W g B) : g < W.heap.size := by
  unfold BufAt at h
  by_cases hl : g < W.heap.size
  · exact hl
  · rw [Array.getElem?_eq_none (by omega)] at h; cases h
theorem buf_below {W W' : World} {g : Nat} {B : List UInt8} (h : BufAt W g B) (hb : Below W.heap.size W W') : BufAt W' g B := by
  unfold BufAt
  rw [hb.block g (buf_lt h)]
  exact h
theorem buf_row {W : World} {g : Nat} {B : List UInt8} (h : BufAt W g B) (C : List UInt8) (cs : Array Value) (hc : cs = (rb C).toArray) : BufAt (W.setRow g cs) g C := by
  subst hc
  exact setRow_heap W g _ _ _ _ h
/-- copy(b[p:..], s), s a string that fits: one step of a region that draws its order. -/
theorem step_copy_buf {ops : Array Oper} {o : Oper} {a : Act} {w : World} {K : Act → World → Prop} {Q : Exit → Act → World → Prop} {E : Prop}
    (hg : o.guard = none) (d x : Operand) (hop : o.op = Op.call { callee := Callee.builtin Builtin.copy, args := #[d, x], argTypes := #[37, 9] })
    (g p dLen dCap : Nat) (hd : a.eval d = .slice (some ⟨g, p, none⟩) dLen dCap) (s : ByteArray) (hx : a.eval x = .string s) (t : List UInt8) (hst : s = ⟨t.toArray⟩) (hle : t.length ≤ dLen)
    (B : List UInt8) (hB : BufAt w g B) (hfit : p + t.length ≤ B.length)
    (hK : ∀ w', BufAt w' g (B.take p ++ (t ++ B.drop (p + t.length))) → Below g w w' → K (a.put o.dst (goInt t.length)) w') :
    if Region.wanted o (yielded ops a.tmps) = true then Oper.wp Try.prog o a w K Q else E := by
  subst hst
  have hw : Region.wanted o (yielded ops a.tmps) = true := by simp [Region.wanted, hg]
  rw [if_pos hw]
  have hsz : (⟨t.toArray⟩ : ByteArray).size = t.length := by show t.toArray.size = _; simp
  have hrun := Lib.run_copy_row_string (P := Try.prog) w 37 9 o.type 5 g p dLen dCap ⟨t.toArray⟩ _ _ Try.underlying37 (by kernel_rfl) hB (by rw [hsz]; exact hle) (by rw [hsz]; simpa [rb] using hfit)
  rw [hsz] at hrun
  unfold Oper.wp
  simp [execOp, hop, resolve, invoke, builtin, hd, hx, hrun, Result.andThen]
  refine hK _ (buf_row hB _ _ ?_) (below_setRow (Below.refl _ _) (Nat.le_refl _) _)
  simp [rb, bv, Lib.byteCells]

set_option maxHeartbeats 1000000 in
set_option maxRecDepth 100000 in
theorem long_any (t : Tok.Tk) (N : Nat) (ht : Tok.Good t) (hN : (Tok.ttext t).length = N) (hl : N ≤ 1000000) (w : World) :
    Calls Try.prog 14 #[.agg #[.int .i64 (t.kind : Int), .int .i64 (t.pos : Int), .string ⟨t.text.toArray⟩]] w fun e w' => e = .returned (.int .i64 (N : Int)) ∧ Below w.heap.size w w' := by
  obtain ⟨kd, ps, tx⟩ := t
  dsimp only
  rcases ht with ⟨hk, hx⟩ | ⟨hk, hx⟩ | ⟨hk, _, _⟩ | ⟨hk, _⟩
  all_goals dsimp only at hk
  all_goals subst hk
  · have HN : Hid (N = 1) := Lib.hid (by rw [← hN]; rfl)
    clear hN hx
    go_enter Try.func14, Try.ntmps14
    go_wp2
    go_ret
    exact ⟨by rw [HN.out]; rfl, (Below.refl _ _).alloc (Nat.le_refl _) _⟩
  · have HN : Hid (N = 1) := Lib.hid (by rw [← hN]; rfl)
    clear hN hx
    go_enter Try.func14, Try.ntmps14
    go_wp2
    go_ret
    exact ⟨by rw [HN.out]; rfl, (Below.refl _ _).alloc (Nat.le_refl _) _⟩
  · have HN : Hid (N = tx.length) := Lib.hid (by rw [← hN]; rfl)
    clear hN
    go_enter Try.func14, Try.ntmps14
    go_wp2
    go_ret
    exact ⟨by rw [HN.out]; rfl, (Below.refl _ _).alloc (Nat.le_refl _) _⟩
  · have hN2 : N = tx.length + 2 := by rw [← hN]; simp [Tok.ttext]
    have hw : IntKind.i64.wrap ((tx.length : Int) + 2) = (tx.length : Int) + 2 := by rw [IntKind.wrap_i64]; omega
    have HN := Lib.hid hN2
    clear hN hN2
    go_enter Try.func14, Try.ntmps14
    go_wp2
    go_ret
    exact ⟨by rw [HN.out]; rfl, (Below.refl _ _).alloc (Nat.le_refl _) _⟩
end Go.Proofs.Ytngdfcommoenkaa
