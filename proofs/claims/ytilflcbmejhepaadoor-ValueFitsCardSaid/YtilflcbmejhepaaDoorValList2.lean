/-
  Layer 27: the law's same, over lists of bits.
-/
import Derived.Test.YtilflcbmejhepaaDoorValList
set_option linter.unusedVariables false
set_option linter.unusedSimpArgs false
namespace Go.Proofs.YtilflcbmejhepaaDoor
open Go.RowKit
open Val (V)

def ubits (l : List Nat) : List Value := l.map fun (n : Nat) => .int .u64 (n : Int)
def vtys (l : List Int) : List Value := l.map (Value.int .i64)

set_option maxHeartbeats 8000000 in
set_option maxRecDepth 100000 in
theorem lsame_any (A1 A2 : Option Addr) (c1 c2 : Nat) (a b : List Nat) (w : World) (B : Nat) (h1 : RdC w B A1 (ubits a)) (h2 : RdC w B A2 (ubits b)) (l1 : a.length ≤ 1000000) (l2 : b.length ≤ 1000000) :
    Calls Tryd.prog 21 #[.slice A1 a.length c1, .slice A2 b.length c2] w fun e w' => e = .returned (.bool (decide (a = b))) ∧ Below w.heap.size w w' := by
  by_cases hl : a.length = b.length
  · have d0 : ((a.length : Int) != (b.length : Int)) = false := by simp; omega
    have d1 : (a.length != b.length) = false := by simp; omega
    go_enter Tryd.func21, Tryd.ntmps21
    go_wp2
    go_loopw [5] (fun iv wr => ∃ (i : Nat), iv = .int .i64 (i : Int) ∧ i ≤ a.length ∧ RdC wr B A1 (ubits a) ∧ RdC wr B A2 (ubits b) ∧ Below w.heap.size w wr ∧ Hid (decide (a.drop i = b.drop i) = decide (a = b))) (fun iv _ => a.length - (intOf iv).toNat)
    case atStart => exact ⟨0, rfl, by omega, h1, h2, Below.refl _ _, by simp [Hid]⟩
    case round =>
      obtain ⟨i, rfl, hi, k1, k2, hB, HR⟩ := hrel
      by_cases hia : i < a.length
      · have hib : i < b.length := by omega
        obtain ⟨ga, oa, rfl, hb1, e1⟩ := k1 (by intro e; have := congrArg List.length e; simp [ubits] at this; rw [this] at hia; simp at hia)
        obtain ⟨gb, ob, rfl, hb2, e2⟩ := k2 (by intro e; have := congrArg List.length e; simp [ubits] at this; rw [this] at hib; simp at hib)
        have f0 := e1 i (by simpa [ubits] using hia)
        have g0 := e2 i (by simpa [ubits] using hib)
        simp only [ubits, List.getElem_map] at f0 g0
        have hd := drop_cons_ne hia hib
        obtain ⟨n, hv⟩ : ∃ v, a[i] = v := ⟨_, rfl⟩
        obtain ⟨n', hv'⟩ : ∃ v, b[i] = v := ⟨_, rfl⟩
        rw [hv] at f0 hd
        rw [hv'] at g0 hd
        have x0 : (i : Int) < (a.length : Int) := by omega
        have x1 : (i : Int) < (b.length : Int) := by omega
        have x2 : (0 : Int) ≤ (i : Int) := by omega
        have x3 : decide (i < a.length) = true := by simpa using hia
        by_cases hq : n = n'
        · subst hq
          have HV : Hid (decide (a.drop (i + 1) = b.drop (i + 1)) = decide (a = b)) := Lib.hid (by rw [← HR.out, hd]; simp)
          have K1 := Lib.hid k1
          have K2 := Lib.hid k2
          clear hd hv hv' k1 k2 e1 e2 HR
          go_wp2
          go_quiet (fail)
          go_wp2
          go_round
          case rel => exact ⟨i + 1, by go_num, by omega, K1.out, K2.out, hB.trans ((below_drewN _ _).mono hB.size), HV⟩
          case measure => simp [intOf]; omega
        · have HV : Hid (decide (a = b) = false) := Lib.hid (by rw [← HR.out, hd, decide_eq_false hq]; rfl)
          have q1 : ((n : Int) != (n' : Int)) = true := by simp; omega
          have q2 : (n != n') = true := by simpa using hq
          have q3 : ((n : Int) == (n' : Int)) = false := by simp; omega
          have q4 : (n == n') = false := by simpa using hq
          clear hd hv hv' k1 k2 e1 e2 HR hq
          go_wp2
          go_quiet (fail)
          go_wp2
          go_ret
          exact ⟨by rw [HV.out]; rfl, hB.trans ((below_drewN _ _).mono hB.size)⟩
      · have hi2 : i = a.length := by omega
        have HV : Hid (decide (a = b) = true) := Lib.hid (by rw [← HR.out, hi2, List.drop_length, show List.drop a.length b = [] by rw [hl]; exact List.drop_length]; simp)
        have x3 : decide (i < a.length) = false := by simpa using hia
        have x0 : ¬ ((i : Int) < (a.length : Int)) := by omega
        clear HR k1 k2
        go_wp2
        go_ret
        exact ⟨by rw [HV.out]; rfl, hB⟩
  · have d0 : ((a.length : Int) != (b.length : Int)) = true := by simp; omega
    have d1 : (a.length != b.length) = true := by simp; omega
    have HV : Hid (decide (a = b) = false) := Lib.hid (by rw [decide_eq_false_iff_not]; intro e; rw [e] at hl; exact hl rfl)
    go_enter Tryd.func21, Tryd.ntmps21
    go_wp2
    go_ret
    exact ⟨by rw [HV.out]; rfl, Below.refl _ _⟩
end Go.Proofs.YtilflcbmejhepaaDoor
