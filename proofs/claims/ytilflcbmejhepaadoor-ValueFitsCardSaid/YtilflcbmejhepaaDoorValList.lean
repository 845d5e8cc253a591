/-
  Layer 27: lists of values, of types, of bits: what the world holds of them; the walks that only read.
-/
import Derived.Test.YtilflcbmejhepaaDoorValLaws2
set_option linter.unusedVariables false
set_option linter.unusedSimpArgs false
namespace Go.Proofs.YtilflcbmejhepaaDoor
open Go.RowKit
open Val (V)

/-- A slice of values reads as l, below block B. -/
def RdV (w : World) (B : Nat) (A : Option Addr) (l : List V) : Prop := l ≠ [] → ∃ g o, A = some ⟨g, o, none⟩ ∧ g < B ∧ ∀ k (h : k < l.length), w.cell? ⟨g, o + k * 2, none⟩ = some (.int .i64 l[k].t) ∧ w.cell? ⟨g, o + k * 2 + 1, none⟩ = some (.int .u64 (l[k].n : Int))
/-- A slice of one-cell values. -/
def RdC (w : World) (B : Nat) (A : Option Addr) (l : List Value) : Prop := l ≠ [] → ∃ g o, A = some ⟨g, o, none⟩ ∧ g < B ∧ ∀ k (h : k < l.length), w.cell? ⟨g, o + k, none⟩ = some l[k]
section
variable {w w' : World} {B B' : Nat} {A : Option Addr} {l : List V} {c : List Value}
theorem RdV.keep (h : RdV w B A l) (hk : ∀ p : Addr, p.block < B → w'.cell? p = w.cell? p) : RdV w' B A l := fun hl => by
  obtain ⟨g, o, e, hb, hc⟩ := h hl
  exact ⟨g, o, e, hb, fun k hkl => ⟨(hk _ hb).trans (hc k hkl).1, (hk _ hb).trans (hc k hkl).2⟩⟩
theorem RdV.below (h : RdV w B A l) (hb : Below B w w') : RdV w' B A l := h.keep fun _ hp => hb.cell hp
theorem RdV.more (h : RdV w B A l) (hB : B ≤ B') : RdV w B' A l := fun hl => by
  obtain ⟨g, o, e, hb, hc⟩ := h hl
  exact ⟨g, o, e, by omega, hc⟩
theorem RdV.drewN (h : RdV w B A l) (n : Nat) : RdV (w.drewN n) B A l := h
theorem RdC.keep (h : RdC w B A c) (hk : ∀ p : Addr, p.block < B → w'.cell? p = w.cell? p) : RdC w' B A c := fun hl => by
  obtain ⟨g, o, e, hb, hc⟩ := h hl
  exact ⟨g, o, e, hb, fun k hkl => (hk _ hb).trans (hc k hkl)⟩
theorem RdC.below (h : RdC w B A c) (hb : Below B w w') : RdC w' B A c := h.keep fun _ hp => hb.cell hp
theorem RdC.more (h : RdC w B A c) (hB : B ≤ B') : RdC w B' A c := fun hl => by
  obtain ⟨g, o, e, hb, hc⟩ := h hl
  exact ⟨g, o, e, by omega, hc⟩
theorem RdC.drewN (h : RdC w B A c) (n : Nat) : RdC (w.drewN n) B A c := h
end
theorem drop_cons_ne {α : Type} [DecidableEq α] {a b : List α} {i : Nat} (ha : i < a.length) (hb : i < b.length) : decide (a.drop i = b.drop i) = (decide (a[i] = b[i]) && decide (a.drop (i + 1) = b.drop (i + 1))) := by
  rw [List.drop_eq_getElem_cons ha, List.drop_eq_getElem_cons hb, Bool.eq_iff_iff]
  simp only [decide_eq_true_eq, Bool.and_eq_true, List.cons.injEq]

set_option maxHeartbeats 8000000 in
set_option maxRecDepth 100000 in
theorem rsame_any (A1 A2 : Option Addr) (c1 c2 : Nat) (a b : List V) (w : World) (B : Nat) (h1 : RdV w B A1 a) (h2 : RdV w B A2 b) (l1 : a.length ≤ 1000000) (l2 : b.length ≤ 1000000) :
    Calls Tryd.prog 18 #[.slice A1 a.length c1, .slice A2 b.length c2] w fun e w' => e = .returned (.bool (decide (a = b))) ∧ Below w.heap.size w w' := by
  by_cases hl : a.length = b.length
  · have d0 : ((a.length : Int) != (b.length : Int)) = false := by simp; omega
    have d1 : (a.length != b.length) = false := by simp; omega
    go_enter Tryd.func18, Tryd.ntmps18
    go_wp2
    go_loopw [5] (fun iv wr => ∃ (i : Nat), iv = .int .i64 (i : Int) ∧ i ≤ a.length ∧ RdV wr B A1 a ∧ RdV wr B A2 b ∧ Below w.heap.size w wr ∧ Hid (decide (a.drop i = b.drop i) = decide (a = b))) (fun iv _ => a.length - (intOf iv).toNat)
    case atStart => exact ⟨0, rfl, by omega, h1, h2, Below.refl _ _, by simp [Hid]⟩
    case round =>
      obtain ⟨i, rfl, hi, k1, k2, hB, HR⟩ := hrel
      by_cases hia : i < a.length
      · have hib : i < b.length := by omega
        obtain ⟨ga, oa, rfl, hb1, e1⟩ := k1 (by intro e; rw [e] at hia; simp at hia)
        obtain ⟨gb, ob, rfl, hb2, e2⟩ := k2 (by intro e; rw [e] at hib; simp at hib)
        obtain ⟨f0, f1⟩ := e1 i hia
        obtain ⟨g0, g1⟩ := e2 i hib
        have hd := drop_cons_ne hia hib
        obtain ⟨⟨t, n⟩, hv⟩ : ∃ v, a[i] = v := ⟨_, rfl⟩
        obtain ⟨⟨t', n'⟩, hv'⟩ : ∃ v, b[i] = v := ⟨_, rfl⟩
        rw [hv] at f0 f1 hd
        rw [hv'] at g0 g1 hd
        dsimp only at f0 f1 g0 g1
        have x0 : (i : Int) < (a.length : Int) := by omega
        have x1 : (i : Int) < (b.length : Int) := by omega
        have x2 : (0 : Int) ≤ (i : Int) := by omega
        have x3 : decide (i < a.length) = true := by simpa using hia
        by_cases hq : (⟨t, n⟩ : V) = ⟨t', n'⟩
        · injection hq with q1 q2
          subst q1 q2
          have HV : Hid (decide (a.drop (i + 1) = b.drop (i + 1)) = decide (a = b)) := Lib.hid (by rw [← HR.out, hd]; simp)
          have K1 := Lib.hid k1
          have K2 := Lib.hid k2
          clear hd hv hv' k1 k2 e1 e2 HR
          go_wp2
          go_quiet (fail)
          go_wp2
          go_round
          case rel => exact ⟨i + 1, by go_num, by omega, K1.out, K2.out, hB.trans ((below_drewN _ _).mono hB.size), HV⟩
          case measure => simp [intOf]; omega
        · have HV : Hid (decide (a = b) = false) := Lib.hid (by rw [← HR.out, hd, decide_eq_false hq]; rfl)
          clear hd hv hv' k1 k2 e1 e2 HR
          by_cases ht : t = t'
          · subst ht
            have hn : n ≠ n' := fun e => hq (by rw [e])
            have q1 : ((n : Int) == (n' : Int)) = false := by simp; omega
            have q2 : (n == n') = false := by simpa using hn
            clear hq hn
            go_wp2
            go_quiet (fail)
            go_wp2
            go_ret
            exact ⟨by rw [HV.out]; rfl, hB.trans ((below_drewN _ _).mono hB.size)⟩
          · have q1 : (t == t') = false := by simpa using ht
            clear hq ht
            go_wp2
            go_quiet (fail)
            go_wp2
            go_ret
            exact ⟨by rw [HV.out]; rfl, hB.trans ((below_drewN _ _).mono hB.size)⟩
      · have hi2 : i = a.length := by omega
        have HV : Hid (decide (a = b) = true) := Lib.hid (by rw [← HR.out, hi2, List.drop_length, show List.drop a.length b = [] by rw [hl]; exact List.drop_length]; simp)
        have x3 : decide (i < a.length) = false := by simpa using hia
        have x0 : ¬ ((i : Int) < (a.length : Int)) := by omega
        clear HR k1 k2
        go_wp2
        go_ret
        exact ⟨by rw [HV.out]; rfl, hB⟩
  · have d0 : ((a.length : Int) != (b.length : Int)) = true := by simp; omega
    have d1 : (a.length != b.length) = true := by simp; omega
    have HV : Hid (decide (a = b) = false) := Lib.hid (by rw [decide_eq_false_iff_not]; intro e; rw [e] at hl; exact hl rfl)
    go_enter Tryd.func18, Tryd.ntmps18
    go_wp2
    go_ret
    exact ⟨by rw [HV.out]; rfl, Below.refl _ _⟩
end Go.Proofs.YtilflcbmejhepaaDoor
