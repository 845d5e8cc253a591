/-
  Layer 27: Bits, ours and the reference's.
-/
import Derived.Test.YtilflcbmejhepaaDoorValApp
set_option linter.unusedVariables false
set_option linter.unusedSimpArgs false
namespace Go.Proofs.YtilflcbmejhepaaDoor
open Go.RowKit
open Val (V)

theorem own_rdc {w : World} {base : Nat} {e : TypeId} {A : Option Addr} {c n : Nat} {l : List Value} (h : w.ownsRow base e 1 (.slice A n c) n l) : RdC w w.heap.size A l := fun hl => by
  have hn : l.length = n := by have := h.1; simpa using this
  have hp : 0 < n := by rcases l with _ | _ <;> simp_all <;> omega
  obtain ⟨g, cap, hv, hb, hlt⟩ := h.form hp
  injection hv with hv
  subst hv
  exact ⟨g, 0, rfl, hlt, fun k hk => by
    have := h.cellAt k (by omega)
    rw [Nat.zero_add]
    rw [List.getElem?_eq_getElem hk] at this
    exact this⟩

set_option maxHeartbeats 8000000 in
set_option maxRecDepth 100000 in
theorem rbits_any (A1 : Option Addr) (c1 : Nat) (a : List V) (w : World) (h1 : RdV w w.heap.size A1 a) (l1 : a.length ≤ 1000000) :
    Calls Tryd.prog 23 #[.slice A1 a.length c1] w fun e w' => (∃ A c, e = .returned (.slice A a.length c) ∧ RdC w' w'.heap.size A (ubits (a.map (·.n)))) ∧ Below w.heap.size w w' := by
  go_enter Tryd.func23, Tryd.ntmps23
  go_wp2
  go_loopw [3, 4] (fun ov iv wr => ∃ (i : Nat) (A : Option Addr) (c : Nat), ov = .slice A i c ∧ iv = .int .i64 (i : Int) ∧ i ≤ a.length ∧ RdV wr w.heap.size A1 a ∧ wr.ownsRow w.heap.size 23 1 (.slice A i c) i (ubits ((a.take i).map (·.n))) ∧ Below w.heap.size w wr) (fun _ iv _ => a.length - (intOf iv).toNat)
  case atStart => exact ⟨0, none, 0, rfl, rfl, by omega, h1, World.ownsRow_nil _ _ _ _, Below.refl _ _⟩
  case round =>
    obtain ⟨i, A, c, rfl, rfl, hi, k1, hown, hB⟩ := hrel
    by_cases hia : i < a.length
    · obtain ⟨ga, oa, rfl, hb1, e1⟩ := id k1 (by intro e; rw [e] at hia; simp at hia)
      obtain ⟨f0, f1⟩ := e1 i hia
      have ht : a.take (i + 1) = a.take i ++ [a[i]] := List.take_succ_eq_append_getElem hia
      obtain ⟨⟨t, n⟩, hv⟩ : ∃ v, a[i] = v := ⟨_, rfl⟩
      rw [hv] at f0 f1 ht
      dsimp only at f0 f1
      have x0 : (i : Int) < (a.length : Int) := by omega
      have x2 : (0 : Int) ≤ (i : Int) := by omega
      have x3 : decide (i < a.length) = true := by simpa using hia
      have hsz := hB.size
      have K1 := Lib.hid k1
      have HT := Lib.hid ht
      clear k1 e1 hv ht
      go_wp2_with (at_builtin; refine app_bits _ n rfl (.tmp 11) (.tmp 17) rfl w.heap.size _ i _ (by rfl) (hown.alloc _) wr.heap.size (by rfl) (heap_alloc_new wr _) (by omega) (by simp; omega) ?_; intro A' c' w2 hown2 hg; have HB2 := Lib.hid ((hB.alloc hsz _).trans (below_own (hown.alloc _) hg (by simp; omega))); have HB3 := Lib.hid (((Below.refl w.heap.size wr).alloc hsz _).trans (below_own (hown.alloc _) hg (by simp; omega))))
      go_round
      case rel => exact ⟨i + 1, A', c', rfl, by go_num, by omega, K1.out.below HB3.out, by rw [HT.out, List.map_append]; exact hown2, HB2.out⟩
      case measure => simp [intOf]; omega
    · have hi2 : i = a.length := by omega
      subst hi2
      rw [List.take_length] at hown
      have x3 : decide (a.length < a.length) = false := by simp
      go_wp2
      go_ret
      exact ⟨⟨A, c, rfl, own_rdc hown⟩, hB⟩
set_option maxHeartbeats 8000000 in
set_option maxRecDepth 100000 in
theorem bits_any (A1 : Option Addr) (c1 : Nat) (a : List V) (w : World) (h1 : RdV w w.heap.size A1 a) (l1 : a.length ≤ 1000000) :
    Calls Tryd.prog 22 #[.slice A1 a.length c1] w fun e w' => (∃ A c, e = .returned (.slice A a.length c) ∧ RdC w' w'.heap.size A (ubits (a.map (·.n)))) ∧ Below w.heap.size w w' := by
  go_enter Tryd.func22, Tryd.ntmps22
  go_wp2
  go_loopw [3, 8] (fun ov iv wr => ∃ (i : Nat) (A : Option Addr) (c : Nat), ov = .slice A i c ∧ iv = .int .i64 (i : Int) ∧ i ≤ a.length ∧ RdV wr w.heap.size A1 a ∧ wr.ownsRow w.heap.size 23 1 (.slice A i c) i (ubits ((a.take i).map (·.n))) ∧ Below w.heap.size w wr) (fun _ iv _ => a.length - (intOf iv).toNat)
  case atStart => exact ⟨0, none, 0, rfl, rfl, by omega, h1, World.ownsRow_nil _ _ _ _, Below.refl _ _⟩
  case round =>
    obtain ⟨i, A, c, rfl, rfl, hi, k1, hown, hB⟩ := hrel
    by_cases hia : i < a.length
    · obtain ⟨ga, oa, rfl, hb1, e1⟩ := id k1 (by intro e; rw [e] at hia; simp at hia)
      obtain ⟨f0, f1⟩ := e1 i hia
      have ht : a.take (i + 1) = a.take i ++ [a[i]] := List.take_succ_eq_append_getElem hia
      obtain ⟨⟨t, n⟩, hv⟩ : ∃ v, a[i] = v := ⟨_, rfl⟩
      rw [hv] at f0 f1 ht
      dsimp only at f0 f1
      have x0 : (i : Int) < (a.length : Int) := by omega
      have x2 : (0 : Int) ≤ (i : Int) := by omega
      have x3 : decide (i < a.length) = true := by simpa using hia
      have hsz := hB.size
      have K1 := Lib.hid k1
      have HT := Lib.hid ht
      clear k1 e1 hv ht
      have hown1 := hown.alloc (.cells #[.int .i64 t, .int .u64 (n : Int)] 25)
      have hB1 := hB.alloc hsz (.cells #[.int .i64 t, .int .u64 (n : Int)] 25)
      have hK1 := (Below.refl w.heap.size wr).alloc hsz (.cells #[.int .i64 t, .int .u64 (n : Int)] 25)
      have hs1 : w.heap.size ≤ (wr.alloc (.cells #[.int .i64 t, .int .u64 (n : Int)] 25)).heap.size := hB1.size
      go_upto_region 5 with fail
      refine at_code (F := fun W => Var W wr.heap.size #[.int .i64 t, .int .u64 (n : Int)] 25 ∧ W.ownsRow w.heap.size 23 1 (.slice A i c) i (ubits ((a.take i).map (·.n))) ∧ Below w.heap.size w W ∧ Below w.heap.size wr W ∧ w.heap.size ≤ W.heap.size) ⟨Var.new _ _ _, hown1, hB1, hK1, hs1⟩ ?_
      clear hown1 hB1 hK1 hs1 hown f0 f1
      rintro wx ⟨hvx, hown, hBx, hKx, hsx⟩
      have f1 := hvx.cells 1
      simp only [List.getElem?_toArray, List.getElem?_cons_zero, List.getElem?_cons_succ] at f1
      go_wp2_with (at_builtin; refine app_bits _ n rfl (.tmp 12) (.tmp 15) rfl w.heap.size _ i _ (by rfl) (hown.alloc _) wx.heap.size (by rfl) (heap_alloc_new wx _) (by omega) (by simp; omega) ?_; intro A' c' w2 hown2 hg; have HB2 := Lib.hid ((hBx.alloc hsx _).trans (below_own (hown.alloc _) hg (by simp; omega))); have HB3 := Lib.hid ((hKx.alloc hsx _).trans (below_own (hown.alloc _) hg (by simp; omega))))
      go_round
      case rel => exact ⟨i + 1, A', c', rfl, by go_num, by omega, K1.out.below HB3.out, by rw [HT.out, List.map_append]; exact hown2, HB2.out⟩
      case measure => simp [intOf]; omega
    · have hi2 : i = a.length := by omega
      subst hi2
      rw [List.take_length] at hown
      have x3 : decide (a.length < a.length) = false := by simp
      go_wp2
      go_ret
      exact ⟨⟨A, c, rfl, own_rdc hown⟩, hB⟩
end Go.Proofs.YtilflcbmejhepaaDoor
