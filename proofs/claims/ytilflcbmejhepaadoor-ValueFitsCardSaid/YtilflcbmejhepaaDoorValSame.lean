/-
  Layer 27: Same, ours: the closure, slices.IndexFunc and slices.ContainsFunc over pairs, and Same itself.
-/
import Derived.Test.YtilflcbmejhepaaDoorValPairs
import Derived.Deep.CutBlock
set_option linter.unusedVariables false
set_option linter.unusedSimpArgs false
namespace Go.Proofs.YtilflcbmejhepaaDoor
open Go.RowKit
open Val (V)

def pv (p : V × V) : Value := .agg #[.int .i64 p.1.t, .int .u64 (p.1.n : Int), .int .i64 p.2.t, .int .u64 (p.2.n : Int)]
set_option maxHeartbeats 8000000 in
set_option maxRecDepth 100000 in
theorem differ_any (t t' : Int) (n n' : Nat) (w : World) :
    Calls Tryd.prog 39 #[.agg #[.int .i64 t, .int .u64 (n : Int), .int .i64 t', .int .u64 (n' : Int)]] w fun e w' => e = .returned (.bool (decide ((⟨t, n⟩ : V) ≠ ⟨t', n'⟩))) ∧ Below w.heap.size w w' := by
  have hb1 := (Below.refl w.heap.size w).alloc (Nat.le_refl _) (.cells #[.int .i64 t, .int .u64 (n : Int), .int .i64 t', .int .u64 (n' : Int)] 56)
  by_cases ht : t = t'
  · subst ht
    by_cases hn : n = n'
    · subst hn
      go_enter Tryd.func39, Tryd.ntmps39
      go_wp2
      go_ret
      exact ⟨by simp, hb1⟩
    · have q1 : ((n : Int) != (n' : Int)) = true := by simp; omega
      have q2 : (n != n') = true := by simpa using hn
      have q3 : ((n : Int) == (n' : Int)) = false := by simp; omega
      have q4 : (n == n') = false := by simpa using hn
      have HD : Hid (decide ((⟨t, n⟩ : V) ≠ ⟨t, n'⟩) = true) := Lib.hid (by simpa using hn)
      clear hn
      go_enter Tryd.func39, Tryd.ntmps39
      go_wp2
      go_ret
      exact ⟨by rw [HD.out]; rfl, hb1⟩
  · have q1 : (t != t') = true := by simpa using ht
    have q2 : (t == t') = false := by simpa using ht
    have HD : Hid (decide ((⟨t, n⟩ : V) ≠ ⟨t', n'⟩) = true) := Lib.hid (by simp; exact .inl ht)
    clear ht
    go_enter Tryd.func39, Tryd.ntmps39
    go_wp2
    go_ret
    exact ⟨by rw [HD.out]; rfl, hb1⟩

/-- A slice of pairs reads as l, below block B. -/
def RdP (w : World) (B : Nat) (A : Option Addr) (l : List (V × V)) : Prop := l ≠ [] → ∃ g o, A = some ⟨g, o, none⟩ ∧ g < B ∧ ∀ k (h : k < l.length), w.cell? ⟨g, o + k * 4, none⟩ = some (.int .i64 l[k].1.t) ∧ w.cell? ⟨g, o + k * 4 + 1, none⟩ = some (.int .u64 (l[k].1.n : Int)) ∧ w.cell? ⟨g, o + k * 4 + 2, none⟩ = some (.int .i64 l[k].2.t) ∧ w.cell? ⟨g, o + k * 4 + 3, none⟩ = some (.int .u64 (l[k].2.n : Int))
theorem RdP.keep {w w' : World} {B : Nat} {A : Option Addr} {l : List (V × V)} (h : RdP w B A l) (hk : ∀ p : Addr, p.block < B → w'.cell? p = w.cell? p) : RdP w' B A l := fun hl => by
  obtain ⟨g, o, e, hb, hc⟩ := h hl
  exact ⟨g, o, e, hb, fun k hkl => ⟨(hk _ hb).trans (hc k hkl).1, (hk _ hb).trans (hc k hkl).2.1, (hk _ hb).trans (hc k hkl).2.2.1, (hk _ hb).trans (hc k hkl).2.2.2⟩⟩
theorem RdP.below {w w' : World} {B : Nat} {A : Option Addr} {l : List (V × V)} (h : RdP w B A l) (hb : Below B w w') : RdP w' B A l := h.keep fun _ hp => hb.cell hp
theorem own_rdp {w : World} {base : Nat} {e : TypeId} {A : Option Addr} {c n : Nat} {l : List (V × V)} (h : w.ownsRow base e 4 (.slice A n c) n (pcells l)) : RdP w w.heap.size A l := fun hl => by
  have hn : l.length = n := by have := h.1; rw [pcells_len] at this; omega
  have hp : 0 < n := by rcases l with _ | _ <;> simp_all <;> omega
  obtain ⟨g, cap, hv, hb, hlt⟩ := h.form hp
  injection hv with hv
  subst hv
  refine ⟨g, 0, rfl, hlt, fun k hk => ?_⟩
  obtain ⟨y0, y1, y2, y3⟩ := pcells_at l k hk
  have z0 := h.cellAt (k * 4) (by omega)
  have z1 := h.cellAt (k * 4 + 1) (by omega)
  have z2 := h.cellAt (k * 4 + 2) (by omega)
  have z3 := h.cellAt (k * 4 + 3) (by omega)
  rw [y0] at z0
  rw [y1] at z1
  rw [y2] at z2
  rw [y3] at z3
  rw [Nat.zero_add]
  exact ⟨z0, z1, z2, z3⟩
def dif (l : List (V × V)) : Bool := l.any fun p => decide (p.1 ≠ p.2)
theorem dif_step {l : List (V × V)} {i : Nat} (h : i < l.length) : dif (l.drop i) = (decide (l[i].1 ≠ l[i].2) || dif (l.drop (i + 1))) := by
  unfold dif
  rw [List.drop_eq_getElem_cons h, List.any_cons]

set_option maxHeartbeats 8000000 in
set_option maxRecDepth 100000 in
theorem indexf_any (A : Option Addr) (c : Nat) (l : List (V × V)) (w : World) (h1 : RdP w w.heap.size A l) (l1 : l.length ≤ 1000000) :
    Calls Tryd.prog 49 #[.slice A l.length c, .func (.func 39) #[] #[]] w fun e w' => (∃ r : Int, e = .returned (.int .i64 r) ∧ decide (0 ≤ r) = dif l) ∧ Below w.heap.size w w' := by
  go_enter Tryd.func49, Tryd.ntmps49
  go_wp2
  go_loopw [5, 8] (fun _ iv wr => ∃ (i : Nat), iv = .int .i64 (i : Int) ∧ i ≤ l.length ∧ RdP wr w.heap.size A l ∧ Below w.heap.size w wr ∧ Hid (dif (l.drop i) = dif l)) (fun _ iv _ => l.length - (intOf iv).toNat)
  case atStart => exact ⟨0, rfl, by omega, h1, Below.refl _ _, by simp [Hid]⟩
  case round =>
    obtain ⟨i, rfl, hi, k1, hB, HR⟩ := hrel
    by_cases hia : i < l.length
    · obtain ⟨g, o, rfl, hb1, e1⟩ := id k1 (by intro e; rw [e] at hia; simp at hia)
      obtain ⟨f0, f1, f2, f3⟩ := e1 i hia
      have hst := dif_step hia
      obtain ⟨⟨⟨t, n⟩, ⟨t', n'⟩⟩, hv⟩ : ∃ v, l[i] = v := ⟨_, rfl⟩
      rw [hv] at f0 f1 f2 f3 hst
      dsimp only at f0 f1 f2 f3 hst
      have x0 : (i : Int) < (l.length : Int) := by omega
      have x2 : (0 : Int) ≤ (i : Int) := by omega
      have x3 : decide (i < l.length) = true := by simpa using hia
      have hsz := hB.size
      have K1 := Lib.hid k1
      have hc := fun W => differ_any t t' n n' W
      clear k1 e1 hv
      rcases hd : decide ((⟨t, n⟩ : V) ≠ ⟨t', n'⟩) with _ | _
      · rw [hd] at hst
        simp only [hd] at hc
        have HR2 : Hid (dif (l.drop (i + 1)) = dif l) := Lib.hid (by rw [← HR.out, hst]; rfl)
        have HC := Lib.hid hc
        clear hd hst hc HR
        go_wp2_with (go_at_call 39; refine (HC.out _).mono ?_; rintro e w1 ⟨rfl, hbb⟩; have HBB := Lib.hid (hbb.mono hsz); clear hbb)
        go_round
        case rel => exact ⟨i + 1, by go_num, by omega, K1.out.below HBB.out, hB.trans HBB.out, HR2⟩
        case measure => simp [intOf]; omega
      · rw [hd] at hst
        simp only [hd] at hc
        have HR2 : Hid (dif l = true) := Lib.hid (by rw [← HR.out, hst]; rfl)
        have HC := Lib.hid hc
        clear hd hst hc HR
        go_wp2_with (go_at_call 39; refine (HC.out _).mono ?_; rintro e w1 ⟨rfl, hbb⟩; have HBB := Lib.hid (hbb.mono hsz); clear hbb)
        go_ret
        exact ⟨⟨_, rfl, by rw [HR2.out]; simp⟩, hB.trans HBB.out⟩
    · have hi2 : i = l.length := by omega
      have HR2 : Hid (dif l = false) := Lib.hid (by rw [← HR.out, hi2, List.drop_length]; rfl)
      have x3 : decide (i < l.length) = false := by simpa using hia
      have x0 : ¬ ((i : Int) < (l.length : Int)) := by omega
      clear k1 HR
      go_wp2
      go_ret
      exact ⟨⟨_, rfl, by rw [HR2.out]; rfl⟩, hB⟩
set_option maxHeartbeats 8000000 in
set_option maxRecDepth 100000 in
theorem containsf_any (A : Option Addr) (c : Nat) (l : List (V × V)) (w : World) (h1 : RdP w w.heap.size A l) (l1 : l.length ≤ 1000000) :
    Calls Tryd.prog 37 #[.slice A l.length c, .func (.func 39) #[] #[]] w fun e w' => e = .returned (.bool (dif l)) ∧ Below w.heap.size w w' := by
  have HC := Lib.hid (indexf_any A c l w h1 l1)
  clear h1
  go_enter Tryd.func37, Tryd.ntmps37
  go_wp2_with (go_at_call 49; refine HC.out.mono ?_; rintro e w1 ⟨⟨r, rfl, hr⟩, hbb⟩; have HRR := Lib.hid hr; have HBB := Lib.hid hbb; clear hr hbb)
  go_ret
  exact ⟨by rw [← HRR.out]; rfl, HBB.out⟩
theorem dif_zip : ∀ {a b : List V}, a.length = b.length → (!dif (a.zip b)) = decide (a = b)
  | [], [], _ => rfl
  | x :: a, y :: b, h => by
    have := dif_zip (a := a) (b := b) (by simpa using h)
    unfold dif at this ⊢
    rw [List.zip_cons_cons, List.any_cons, Bool.not_or, this, Bool.eq_iff_iff]
    simp only [ne_eq, Bool.and_eq_true, Bool.not_eq_true', decide_eq_false_iff_not, Decidable.not_not, decide_eq_true_eq, List.cons.injEq]
  | [], y :: b, h => by simp at h
  | x :: a, [], h => by simp at h
set_option maxHeartbeats 8000000 in
set_option maxRecDepth 100000 in
theorem same_any (A1 A2 : Option Addr) (c1 c2 : Nat) (a b : List V) (w : World) (h1 : RdV w w.heap.size A1 a) (h2 : RdV w w.heap.size A2 b) (l1 : a.length ≤ 1000000) (l2 : b.length ≤ 1000000) :
    Calls Tryd.prog 17 #[.slice A1 a.length c1, .slice A2 b.length c2] w fun e w' => e = .returned (.bool (decide (a = b))) ∧ Below w.heap.size w w' := by
  by_cases hl : a.length = b.length
  · have d0 : ((a.length : Int) == (b.length : Int)) = true := by simp; omega
    have d1 : (a.length == b.length) = true := by simp; omega
    have HP := Lib.hid (pairs_any A1 A2 c1 c2 a b w h1 h2 hl l1)
    have HZ := Lib.hid (dif_zip hl)
    have HZL : Hid ((a.zip b).length = a.length) := Lib.hid (by rw [List.length_zip]; omega)
    clear hl h1 h2
    go_enter Tryd.func17, Tryd.ntmps17
    go_wp2_with (first
      | (go_at_call 38; refine HP.out.mono ?_; rintro e w1 ⟨⟨A, c, rfl, hown⟩, hbb⟩; have HBB := Lib.hid hbb; have HC := Lib.hid (containsf_any A c _ w1 (own_rdp hown) (by rw [HZL.out]; exact l1)); rw [HZL.out] at HC; clear hbb hown)
      | (go_at_call 37; refine HC.out.mono ?_; rintro e w2 ⟨rfl, hbc⟩; have HBC := Lib.hid hbc; clear hbc))
    go_ret
    exact ⟨by rw [← HZ.out]; rfl, HBB.out.trans (HBC.out.mono HBB.out.size)⟩
  · have d0 : ((a.length : Int) == (b.length : Int)) = false := by simp; omega
    have d1 : (a.length == b.length) = false := by simp; omega
    have HV : Hid (decide (a = b) = false) := Lib.hid (by rw [decide_eq_false_iff_not]; intro e; rw [e] at hl; exact hl rfl)
    go_enter Tryd.func17, Tryd.ntmps17
    go_wp2
    go_ret
    exact ⟨by rw [HV.out]; rfl, Below.refl _ _⟩
end Go.Proofs.YtilflcbmejhepaaDoor
