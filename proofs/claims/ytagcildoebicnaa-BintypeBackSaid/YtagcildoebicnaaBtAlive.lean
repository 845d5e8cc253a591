/-
  The chapter's examples: alive returns true.
-/
import Derived.Test.YtagcildoebicnaaBtLaw0
set_option linter.unusedVariables false
set_option linter.unusedSimpArgs false
namespace Go.Proofs.Ytagcildoebicnaa
open Go.RowKit

namespace Oct
theorem alive1 : putFunc ⟨[], 0⟩ [1, 2] [1] = ⟨[96, 2, 127, 126, 1, 127], 0⟩ := by
  have e1 : Leb.putU 2 = [2] := by rw [Leb.putU_small (by decide)]; rfl
  have e2 : Leb.putU 1 = [1] := by rw [Leb.putU_small (by decide)]; rfl
  unfold putFunc
  rw [if_pos (by decide), if_pos (by decide)]
  unfold putVals putU32
  rw [if_neg (by decide), if_neg (by decide)]
  show putAll ((putAll ((Wt.bytes ⟨[], 0⟩ [96]).bytes (Leb.putU 2)) [1, 2]).bytes (Leb.putU 1)) [1] = _
  rw [e1, e2]
  rfl
theorem alive2 : putLim ⟨[96, 2, 127, 126, 1, 127], 0⟩ ⟨300, 0, false⟩ = ⟨[96, 2, 127, 126, 1, 127, 0, 172, 2], 0⟩ := by
  have e1 : Leb.putU 300 = [172, 2] := by rw [Leb.putU_big (by decide), Leb.putU_small (by decide)]; rfl
  unfold putLim
  rw [if_pos (by decide), if_neg (by decide)]
  unfold putU32
  rw [if_neg (by decide)]
  show Wt.bytes _ (Leb.putU 300) = _
  rw [e1]
  rfl
theorem alive3 : putBlock ⟨[96, 2, 127, 126, 1, 127, 0, 172, 2], 0⟩ ⟨2, 0, 64⟩ = ⟨[96, 2, 127, 126, 1, 127, 0, 172, 2, 192, 0], 0⟩ := by
  have e1 : Leb.putS 64 = [192, 0] := by rw [Leb.putS_big (by decide), Leb.putS_small (by decide)]; rfl
  unfold putBlock
  rw [if_pos (by decide), if_neg (by decide), if_neg (by decide)]
  unfold putS33
  rw [if_neg (by decide)]
  dsimp only
  rw [e1]
  rfl
theorem alive4 : getLim [1, 1, 2, 64] ⟨0, 0⟩ = (⟨3, 0⟩, ⟨1, 2, true⟩) := by kernel_rfl
theorem alive5 : getBlock [1, 1, 2, 64] ⟨3, 0⟩ = (⟨4, 0⟩, ⟨0, 0, 0⟩) := by kernel_rfl
end Oct

theorem Trn.belO {W W' : World} {B : Nat} {F F' : Nat → Prop} (t : Trn W W' B F F') : Below B W W' := t.bel
/-- A list of value types in a block of its own, beside a Writer that was there. -/
theorem Lst.lit {w w' : World} {B : Nat} {p v : Value} {s : Oct.Wt} {xs : List Int} (h : WrAt w B p v s) (cs : Array Value) (e : TypeId) (K : Nat) (hcs : cs.toList = xs.map (Value.int .i64)) (hv : Var w' K cs e) (hK : w.heap.size ≤ K) : Lst w' p v (some ⟨K, 0, none⟩) xs := by
  refine ⟨⟨by simp, fun _ => ⟨_, rfl, hv.lt, fun j u hj => ?_⟩⟩, fun _ ad hA => ?_⟩
  · rw [← hcs] at hj
    have e0 : (⟨K, 0, none⟩ : Addr).add j = ⟨K, j, none⟩ := by unfold Addr.add; split <;> simp_all
    rw [e0, hv.cells j]
    simpa using hj
  · injection hA with hA; subst hA
    exact h.not_ft hK
theorem RdB.lit {w : World} {K : Nat} {cs : Array Value} {e : TypeId} {l : List UInt8} (hv : Var w K cs e) (hcs : cs.toList = rb l) : RdB w w.heap.size (some ⟨K, 0, none⟩) l := by
  refine ⟨by rw [rb_length]; simp, fun _ => ⟨_, rfl, hv.lt, fun j u hj => ?_⟩⟩
  rw [← hcs] at hj
  have e0 : (⟨K, 0, none⟩ : Addr).add j = ⟨K, j, none⟩ := by unfold Addr.add; split <;> simp_all
  rw [e0, hv.cells j]
  simpa using hj

set_option maxHeartbeats 8000000 in
set_option maxRecDepth 100000 in
theorem alive_any (w : World) : Calls Try.prog 11 #[] w fun e w' => e = .returned (.bool true) ∧ Below w.heap.size w w' := by
  have HN := Lib.hid (new_any w w.heap.size (Nat.le_refl _))
  go_enter Try.func11, Try.ntmps11
  go_wp2_with fail
  refine HN.out.mono ?_
  rintro e w1 ⟨p, v, rfl, hW, hb1, -⟩
  have hs1 := hb1.size
  go_wp2_with fail
  refine at_world (F := fun w' => Lst w' p v (some ⟨w1.heap.size, 0, none⟩) [1, 2] ∧ Lst w' p v (some ⟨w1.heap.size + 1, 0, none⟩) [1] ∧ Below w1.heap.size w1 w') ⟨Lst.lit hW #[.int .i64 1, .int .i64 2] 23 _ rfl ((Var.new w1 _ _).alloc _) (Nat.le_refl _), Lst.lit hW #[.int .i64 1] 23 _ rfl (Var.new2 w1 _ _ _) (by omega), by go_grown⟩ ?_
  rintro w2 ⟨L1, L2, hb2⟩
  refine (putFunc_any (hW.below hb2) _ _ 2 1 [1, 2] [1] L1 L2 (by simp) (by simp) (by simp)).mono ?_
  rw [Oct.alive1]
  rintro e w3 ⟨rfl, v3, hW3, t3⟩
  have B3 : Below w.heap.size w w3 := (hb1.trans (hb2.mono hs1)).trans t3.bel
  clear L1 L2 hb2 t3 hb1 hW
  go_wp2_with fail
  refine (putLim_any hW3 ⟨300, 0, false⟩ (by simp)).mono ?_
  rw [Oct.alive2]
  rintro e w4 ⟨rfl, v4, hW4, t4⟩
  have B4 := B3.trans t4.bel
  clear t4 B3 hW3
  go_wp2_with fail
  refine (putBlock_any hW4 ⟨2, 0, 64⟩ (by simp)).mono ?_
  rw [Oct.alive3]
  rintro e w5 ⟨rfl, v5, hW5, t5⟩
  have B5 := B4.trans t5.bel
  clear t5 B4 hW4
  go_wp2_with fail
  have HD := wdone_any hW5 (by simp)
  rw [show doneB (⟨[96, 2, 127, 126, 1, 127, 0, 172, 2, 192, 0], 0⟩ : Oct.Wt) = [96, 2, 127, 126, 1, 127, 0, 172, 2, 192, 0] from rfl] at HD
  refine HD.mono ?_
  clear HD
  rintro e w6 ⟨A6, c6, rfl, hA6, hb6⟩
  have s5 := B5.size
  have B6 := B5.trans (hb6.mono s5)
  have s6 := B6.size
  clear hW5 hb6 B5
  go_wp2_with fail
  refine at_world (F := fun w' => RdB w' w'.heap.size (some ⟨w6.heap.size, 0, none⟩) [1, 1, 2, 64] ∧ Below w6.heap.size w6 w') ⟨RdB.lit (Var.new w6 _ _) rfl, by go_grown⟩ ?_
  rintro w7 ⟨hA7, hb7⟩
  have B7 := B6.trans (hb7.mono s6)
  have hA7' := hA6.below hb7
  have s7 := B7.size
  refine (read_any w7 w7.heap.size (Nat.le_refl _) _ 4 4 [1, 1, 2, 64] rfl hA7 (by simp)).mono ?_
  rintro e w8 ⟨q, u, rfl, hQ, hb8, -⟩
  have B8 := B7.trans (hb8.mono s7)
  have hA8 := hA7'.below (hb8.mono hb7.size)
  clear hA7' hA7 B7 B6
  go_wp2_with fail
  refine (getLim_any hQ).mono ?_
  rw [Oct.alive4]
  rintro e w9 ⟨rfl, st9⟩
  have B9 := B8.trans (st9.2.bel.mono s7)
  have hA9 := hA8.below (st9.2.bel.mono hb7.size)
  have s9 := B9.size
  have hw : RdrAt (w9.alloc (.cells #[.int .i64 1, .int .i64 2, .bool true] 52)) w7.heap.size q u [1, 1, 2, 64] ⟨3, 0⟩ := st9.1.below (by go_grown)
  have s69 : w6.heap.size ≤ w9.heap.size := Nat.le_trans (Nat.le_trans hb7.size hb8.size) st9.2.bel.size
  have cvA : (convert 22 9 (.slice A6 11 c6)).run Try.prog (w9.alloc (.cells #[.int .i64 1, .int .i64 2, .bool true] 52)) = .ok (.string ⟨#[96, 2, 127, 126, 1, 127, 0, 172, 2, 192, 0]⟩) (w9.alloc (.cells #[.int .i64 1, .int .i64 2, .bool true] 52)) :=
    cv_bytes (hA9.alloc s69 _) c6 11 rfl
  have hE1 := eq_lim 1 2 1 2 true true
  have hE2 := eq_blk 0 0 0 0 0 0
  have HG := Lib.hid (getBlock_any hw)
  rw [Oct.alive5] at HG
  clear hA9 hA8 hA6 B8 hb8 hQ st9 hw hb7
  dsimp only
  go_wp2_with fail
  refine HG.out.mono ?_
  rintro e w10 ⟨rfl, st10⟩
  have B10 := (show Below w.heap.size w (w9.alloc (.cells #[.int .i64 1, .int .i64 2, .bool true] 52)) by go_grown).trans (st10.2.bel.mono s7)
  dsimp only
  go_wp2_with fail
  refine (end_any st10.1).mono ?_
  rintro e w11 ⟨rfl, q2, rfl⟩
  dsimp only
  go_wp2
  go_ret
  exact ⟨rfl, below_drewN_ B10 _⟩
end Go.Proofs.Ytagcildoebicnaa
