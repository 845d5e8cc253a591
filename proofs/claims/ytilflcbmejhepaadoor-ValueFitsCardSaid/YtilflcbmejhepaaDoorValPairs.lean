/-
  Layer 27: pairs.
-/
import Derived.Test.YtilflcbmejhepaaDoorValOf
import Derived.Deep.AppendLies
set_option linter.unusedVariables false
set_option linter.unusedSimpArgs false
namespace Go.Proofs.YtilflcbmejhepaaDoor
open Go.RowKit
open Val (V)

def pcells (l : List (V × V)) : List Value := l.flatMap fun v => [.int .i64 v.1.t, .int .u64 (v.1.n : Int), .int .i64 v.2.t, .int .u64 (v.2.n : Int)]
theorem pcells_app (a b : List (V × V)) : pcells (a ++ b) = pcells a ++ pcells b := by unfold pcells; rw [List.flatMap_append]
theorem pcells_len : ∀ l : List (V × V), (pcells l).length = l.length * 4
  | [] => rfl
  | v :: l => by
    have := pcells_len l
    unfold pcells at this ⊢
    rw [List.flatMap_cons, List.length_append, this]
    simp; omega
theorem pcells_at : ∀ (l : List (V × V)) (k : Nat) (h : k < l.length), (pcells l)[k * 4]? = some (.int .i64 l[k].1.t) ∧ (pcells l)[k * 4 + 1]? = some (.int .u64 (l[k].1.n : Int)) ∧ (pcells l)[k * 4 + 2]? = some (.int .i64 l[k].2.t) ∧ (pcells l)[k * 4 + 3]? = some (.int .u64 (l[k].2.n : Int))
  | v :: l, 0, _ => ⟨rfl, rfl, rfl, rfl⟩
  | v :: l, k + 1, h => by
    have := pcells_at l k (by simpa using h)
    have e : pcells (v :: l) = .int .i64 v.1.t :: .int .u64 (v.1.n : Int) :: .int .i64 v.2.t :: .int .u64 (v.2.n : Int) :: pcells l := rfl
    rw [e, show (k + 1) * 4 = k * 4 + 1 + 1 + 1 + 1 from by omega]
    simpa using this
theorem info_pair : (Tryd.prog.info? 56).map (fun i => (i.zero, i.size, i.bytes)) = some (some (.agg #[.int .i64 0, .int .u64 0, .int .i64 0, .int .u64 0]), 4, 32) := by kernel_rfl

theorem grown_undrew {W w' : World} {row : Option Nat} (h : W.drew.grownBy w' row) : W.grownBy w' row := ⟨h.os, h.tape, h.output, h.size, h.block⟩
set_option maxHeartbeats 8000000 in
set_option maxRecDepth 100000 in
theorem pairs_any (A1 A2 : Option Addr) (c1 c2 : Nat) (a b : List V) (w : World) (h1 : RdV w w.heap.size A1 a) (h2 : RdV w w.heap.size A2 b) (hl : a.length = b.length) (l1 : a.length ≤ 1000000) :
    Calls Tryd.prog 38 #[.slice A1 a.length c1, .slice A2 b.length c2] w fun e w' => (∃ A c, e = .returned (.slice A a.length c) ∧ w'.ownsRow w.heap.size 56 4 (.slice A a.length c) a.length (pcells (a.zip b))) ∧ Below w.heap.size w w' := by
  obtain ⟨i0, hi0, hz0, hz1, hz2⟩ := info_parts info_pair
  have HL := Lib.hid hl
  have hmin : min (a.length : Int) (b.length : Int) = (a.length : Int) := by omega
  rw [← hl]
  rw [← hl] at hmin
  clear hl
  go_enter Tryd.func38, Tryd.ntmps38
  go_wp2
  go_loopw [5, 12] (fun ov iv wr => ∃ (i : Nat) (A : Option Addr) (c : Nat), ov = .slice A i c ∧ iv = .int .i64 (i : Int) ∧ i ≤ a.length ∧ RdV wr w.heap.size A1 a ∧ RdV wr w.heap.size A2 b ∧ wr.ownsRow w.heap.size 56 4 (.slice A i c) i (pcells ((a.zip b).take i)) ∧ Below w.heap.size w wr) (fun _ iv _ => a.length - (intOf iv).toNat)
  case atStart => exact ⟨0, none, 0, rfl, rfl, by omega, h1, h2, World.ownsRow_nil _ _ _ _, Below.refl _ _⟩
  case round =>
    obtain ⟨i, A, c, rfl, rfl, hi, k1, k2, hown, hB⟩ := hrel
    by_cases hia : i < a.length
    · have hib : i < b.length := by have := HL.out; omega
      have hiz : i < (a.zip b).length := by rw [List.length_zip]; omega
      obtain ⟨ga, oa, rfl, hb1, e1⟩ := id k1 (by intro e; rw [e] at hia; simp at hia)
      obtain ⟨gb, ob, rfl, hb2, e2⟩ := id k2 (by intro e; rw [e] at hib; simp at hib)
      obtain ⟨f0, f1⟩ := e1 i hia
      obtain ⟨g0, g1⟩ := e2 i hib
      have ht : (a.zip b).take (i + 1) = (a.zip b).take i ++ [(a[i], b[i])] := by rw [List.take_succ_eq_append_getElem hiz, List.getElem_zip]
      obtain ⟨⟨t, n⟩, hv⟩ : ∃ v, a[i] = v := ⟨_, rfl⟩
      obtain ⟨⟨t', n'⟩, hv'⟩ : ∃ v, b[i] = v := ⟨_, rfl⟩
      rw [hv, hv'] at ht
      rw [hv] at f0 f1
      rw [hv'] at g0 g1
      dsimp only at f0 f1 g0 g1
      have x0 : (i : Int) < (a.length : Int) := by omega
      have x1 : (i : Int) < (b.length : Int) := by omega
      have x2 : (0 : Int) ≤ (i : Int) := by omega
      have x3 : decide (i < a.length) = true := by simpa using hia
      have hsz := hB.size
      have K1 := Lib.hid k1
      have K2 := Lib.hid k2
      have HT := Lib.hid ht
      clear k1 k2 e1 e2 hv hv' ht
      go_wp2_with fail
      go_region_law (refine step_append_lies _ (by rfl) (.tmp 15) (.tmp 25) 55 (by rfl) w.heap.size 56 i0 _ 4 32 Tryd.underlying55 hi0 hz0 hz1 hz2 rfl (by omega) (.slice A i c) i _ (by rfl) (hown.alloc _) ⟨wr.heap.size, 0, none⟩ 1 1 _ (by rfl) (by rfl) (World.news_of_block (heap_alloc_new wr _)) (by simp [Value.oneCell']) (by omega) (by unfold maxLen; omega) (by omega) (by simp; omega) (wr.heap.size + 1) (by simp) ?_; intro gg cap w3 hown3 hg3 hat3 hlt3)
      all_goals
        go_wp2_with fail
        have hg4 := grown_undrew hg3
        have HB2 := Lib.hid ((hB.alloc hsz _).trans (below_own (hown.alloc _) hg4 (by simp; omega)))
        have HB3 := Lib.hid (((Below.refl w.heap.size wr).alloc hsz _).trans (below_own (hown.alloc _) hg4 (by simp; omega)))
        have hown4 : w3.ownsRow w.heap.size 56 4 (.slice (some ⟨gg, 0, none⟩) (i + 1) cap) (i + 1) (pcells ((a.zip b).take (i + 1))) := by
          rw [HT.out, pcells_app]
          exact hown3
        clear hown3 hg3 hg4 hown
        go_round
        case rel => exact ⟨i + 1, _, cap, rfl, by go_num, by omega, K1.out.below HB3.out, K2.out.below HB3.out, hown4, HB2.out⟩
        case measure => simp [intOf]; omega
    · have hi2 : i = a.length := by omega
      subst hi2
      rw [show List.take a.length (a.zip b) = a.zip b by rw [List.take_of_length_le]; rw [List.length_zip]; omega] at hown
      have x3 : decide (a.length < a.length) = false := by simp
      clear k1 k2
      go_wp2
      go_ret
      exact ⟨⟨A, c, rfl, hown⟩, hB⟩
end Go.Proofs.YtilflcbmejhepaaDoor
