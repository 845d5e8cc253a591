/-
  Layer 27: the laws ValueLists and ValueFits.
-/
import Derived.Test.YtilflcbmejhepaaDoorValSame
set_option linter.unusedVariables false
set_option linter.unusedSimpArgs false
namespace Go.Proofs.YtilflcbmejhepaaDoor
open Go.RowKit
open Val (V)

theorem RdV.on {w W : World} {A : Option Addr} {l : List V} (h : RdV w w.heap.size A l) (hb : Below w.heap.size w W) : RdV W W.heap.size A l := (h.below hb).more hb.size
theorem RdC.on {w W : World} {A : Option Addr} {l : List Value} (h : RdC w w.heap.size A l) (hb : Below w.heap.size w W) : RdC W W.heap.size A l := (h.below hb).more hb.size
theorem on_and {P : Program} {f : FuncId} {args : Array Value} {w W : World} {p : Ending → World → Prop} (hb : Below w.heap.size w W) (h : Calls P f args W fun e w' => p e w' ∧ Below W.heap.size W w') : Calls P f args W fun e w' => p e w' ∧ Below w.heap.size w w' ∧ Below W.heap.size W w' :=
  h.mono fun _ _ h => ⟨h.1, hb.trans (h.2.mono hb.size), h.2⟩

set_option maxHeartbeats 8000000 in
set_option maxRecDepth 100000 in
theorem lists_walk (A0 A1 A2 A3 : Option Addr) (c0 c1 c2 c3 : Nat) (l m : List V) (ts : List Int) (bs : List Nat) (w : World) (G : Glob w) (k0 : RdV w w.heap.size A0 l) (k1 : RdV w w.heap.size A1 m) (k2 : RdC w w.heap.size A2 (vtys ts)) (k3 : RdC w w.heap.size A3 (ubits bs))
    (n0 : ∀ v ∈ l, v.n < 18446744073709551616) (n3 : ∀ n ∈ bs, n < 18446744073709551616) (z0 : l.length ≤ 9223372036854775807) (z1 : m.length ≤ 9223372036854775807) (z2 : ts.length ≤ 9223372036854775807) (z3 : bs.length ≤ 9223372036854775807) :
    Calls Tryd.prog 6 #[.slice A0 l.length c0, .slice A1 m.length c1, .slice A2 ts.length c2, .slice A3 bs.length c3] w fun e w' => e = .returned (.bool true) ∧ Below w.heap.size w w' := by
  have HA := Lib.hid (fun W (hb : Below w.heap.size w W) => on_and hb (alive_any W (G.on hb (Nat.le_refl _))))
  have Z0 : Hid True := Lib.hid trivial
  by_cases b0 : 100 < l.length
  · have i1 : decide (100 < (l.length : Int)) = true := by simp; omega
    have i2 : decide (100 < l.length) = true := by simpa using b0
    go_enter Tryd.func6, Tryd.ntmps6
    go_wp2_with (go_at_call 14; refine (HA.out _ (Below.refl _ _)).mono ?_; rintro e w2 ⟨rfl, hb2, _⟩)
    go_ret
    exact ⟨rfl, hb2⟩
  have i1 : decide (100 < (l.length : Int)) = false := by simp; omega
  have i2 : decide (100 < l.length) = false := by simpa using b0
  by_cases b1 : 100 < m.length
  · have i3 : decide (100 < (m.length : Int)) = true := by simp; omega
    have i4 : decide (100 < m.length) = true := by simpa using b1
    go_enter Tryd.func6, Tryd.ntmps6
    go_wp2_with (go_at_call 14; refine (HA.out _ (Below.refl _ _)).mono ?_; rintro e w2 ⟨rfl, hb2, _⟩)
    go_ret
    exact ⟨rfl, hb2⟩
  have i3 : decide (100 < (m.length : Int)) = false := by simp; omega
  have i4 : decide (100 < m.length) = false := by simpa using b1
  by_cases b2 : 100 < ts.length
  · have i5 : decide (100 < (ts.length : Int)) = true := by simp; omega
    have i6 : decide (100 < ts.length) = true := by simpa using b2
    go_enter Tryd.func6, Tryd.ntmps6
    go_wp2_with (go_at_call 14; refine (HA.out _ (Below.refl _ _)).mono ?_; rintro e w2 ⟨rfl, hb2, _⟩)
    go_ret
    exact ⟨rfl, hb2⟩
  have i5 : decide (100 < (ts.length : Int)) = false := by simp; omega
  have i6 : decide (100 < ts.length) = false := by simpa using b2
  by_cases b3 : 100 < bs.length
  · have i7 : decide (100 < (bs.length : Int)) = true := by simp; omega
    have i8 : decide (100 < bs.length) = true := by simpa using b3
    go_enter Tryd.func6, Tryd.ntmps6
    go_wp2_with (go_at_call 14; refine (HA.out _ (Below.refl _ _)).mono ?_; rintro e w2 ⟨rfl, hb2, _⟩)
    go_ret
    exact ⟨rfl, hb2⟩
  have i7 : decide (100 < (bs.length : Int)) = false := by simp; omega
  have i8 : decide (100 < bs.length) = false := by simpa using b3
  have h1 := fun W (hb : Below w.heap.size w W) => on_and hb (same_any A0 A1 c0 c1 l m W (k0.on hb) (k1.on hb) (by omega) (by omega))
  have h2 := fun W (hb : Below w.heap.size w W) => on_and hb (rsame_any A0 A1 c0 c1 l m W W.heap.size (k0.on hb) (k1.on hb) (by omega) (by omega))
  have h3 := fun W (hb : Below w.heap.size w W) => on_and hb (same_any A0 A0 c0 c0 l l W (k0.on hb) (k0.on hb) (by omega) (by omega))
  have h4 := fun W (hb : Below w.heap.size w W) => on_and hb (fit_any A0 A2 c0 c2 l ts W (k0.on hb) (k2.on hb) n0 (by omega) (by omega))
  have h5 := fun W (hb : Below w.heap.size w W) => on_and hb (rfit_any A0 A2 c0 c2 l ts W (k0.on hb) (k2.on hb) n0 (by omega) (by omega))
  have h6 := fun W (hb : Below w.heap.size w W) => on_and hb (bits_any A0 c0 l W (k0.on hb) (by omega))
  have h7 := fun W (hb : Below w.heap.size w W) => on_and hb (rbits_any A0 c0 l W (k0.on hb) (by omega))
  have h9 := fun W (hb : Below w.heap.size w W) => on_and hb (of_any A3 A2 c3 c2 bs ts W (k3.on hb) (k2.on hb) n3 (by omega) (by omega))
  have h10 := fun W (hb : Below w.heap.size w W) => on_and hb (rof_any A3 A2 c3 c2 bs ts W (k3.on hb) (k2.on hb) n3 (by omega) (by omega))
  have hlm : (l.map (·.n)).length = l.length := by simp
  have hlo : (Val.ofv bs ts).length ≤ 100 := by have := Val.ofv_len bs ts; omega
  obtain ⟨x, hx⟩ : ∃ x, decide (l = m) = x := ⟨_, rfl⟩
  obtain ⟨y, hy⟩ : ∃ y, Val.fit l ts = y := ⟨_, rfl⟩
  obtain ⟨M, hM⟩ : ∃ M, l.map (·.n) = M := ⟨_, rfl⟩
  obtain ⟨O, hO⟩ : ∃ O, Val.ofv bs ts = O := ⟨_, rfl⟩
  simp only [hx] at h1 h2
  simp only [decide_true] at h3
  simp only [hy] at h4 h5
  simp only [hM] at h6 h7
  rw [hM] at hlm
  rw [hO] at hlo
  simp only [hO] at h9 h10
  have HLM := Lib.hid hlm
  have HLO := Lib.hid hlo
  have B0 := Lib.hid b0
  have H1 := Lib.hid h1
  have H2 := Lib.hid h2
  have H3 := Lib.hid h3
  have H4 := Lib.hid h4
  have H5 := Lib.hid h5
  have H6 := Lib.hid h6
  have H7 := Lib.hid h7
  have H9 := Lib.hid h9
  have H10 := Lib.hid h10
  have hb := Lib.hid (Below.refl w.heap.size w)
  clear h1 h2 h3 h4 h5 h6 h7 h9 h10 hx hy hM hO hlm hlo G k0 k1 k2 k3 n0 n3 b0 b1 b2 b3
  go_enter Tryd.func6, Tryd.ntmps6
  go_wp2_with (first
    | (go_at_call 17; (with_reducible refine (H1.out _ hb.out).mono ?_); clear H1 hb; rintro e w1 ⟨rfl, hb', _⟩; have hb := Lib.hid hb'; clear hb')
    | (go_at_call 18; (with_reducible refine (H2.out _ hb.out).mono ?_); clear H2 hb; rintro e w2 ⟨rfl, hb', _⟩; have hb := Lib.hid hb'; clear hb')
    | (go_at_call 17; (with_reducible refine (H3.out _ hb.out).mono ?_); clear H3 hb; rintro e w3 ⟨rfl, hb', _⟩; have hb := Lib.hid hb'; clear hb')
    | (go_at_call 19; (with_reducible refine (H4.out _ hb.out).mono ?_); clear H4 hb; rintro e w4 ⟨rfl, hb', _⟩; have hb := Lib.hid hb'; clear hb')
    | (go_at_call 20; (with_reducible refine (H5.out _ hb.out).mono ?_); clear H5 hb; rintro e w5 ⟨rfl, hb', _⟩; have hb := Lib.hid hb'; clear hb')
    | (go_at_call 22; (with_reducible refine (H6.out _ hb.out).mono ?_); clear H6 hb; rintro e w6 ⟨⟨A6, c6, rfl, r6⟩, hb', _⟩; have hb := Lib.hid hb'; have R6 := Lib.hid r6; clear hb' r6)
    | (go_at_call 23; (with_reducible refine (H7.out _ hb.out).mono ?_); clear H7 hb; rintro e w7 ⟨⟨A7, c7, rfl, r7⟩, hb', hc⟩; have hb := Lib.hid hb'; have R7 := Lib.hid r7; have S6 := Lib.hid (R6.out.on hc); rw [← HLM.out]; clear hb' r7 hc)
    | (go_at_call 21; refine (on_and hb.out (lsame_any A6 A7 c6 c7 M M w7 w7.heap.size S6.out R7.out (by have := HLM.out; have := B0.out; omega) (by have := HLM.out; have := B0.out; omega))).mono ?_; clear hb; rintro e w8 ⟨rfl, hb', _⟩; simp only [decide_true]; have hb := Lib.hid hb'; clear hb')
    | (go_at_call 24; (with_reducible refine (H9.out _ hb.out).mono ?_); clear H9 hb; rintro e w9 ⟨⟨A9, c9, rfl, r9⟩, hb', _⟩; have hb := Lib.hid hb'; have R9 := Lib.hid r9; clear hb' r9)
    | (go_at_call 25; (with_reducible refine (H10.out _ hb.out).mono ?_); clear H10 hb; rintro e w10 ⟨⟨A10, c10, rfl, r10⟩, hb', hc⟩; have hb := Lib.hid hb'; have R10 := Lib.hid r10; have S9 := Lib.hid (R9.out.on hc); have H11 := Lib.hid (on_and hb' (rsame_any A9 A10 c9 c10 O O w10 w10.heap.size S9.out r10 (by have := HLO.out; omega) (by have := HLO.out; omega))); clear hb' r10 hc)
    | (go_at_call 18; refine H11.out.mono ?_; clear H11 hb; rintro e w11 ⟨rfl, hb', _⟩; simp only [decide_true]; have hb := Lib.hid hb'; clear hb')
    | (go_at_call 14; refine (HA.out _ hb.out).mono ?_; clear hb; rintro e w12 ⟨rfl, hb', _⟩; have hb := Lib.hid hb'; clear hb'))
  go_ret
  exact ⟨rfl, hb.out⟩

set_option maxHeartbeats 8000000 in
set_option maxRecDepth 100000 in
theorem fits_walk (A0 A2 A3 : Option Addr) (c0 c2 c3 : Nat) (l : List V) (ts : List Int) (bs : List Nat) (w : World) (G : Glob w) (k0 : RdV w w.heap.size A0 l) (k2 : RdC w w.heap.size A2 (vtys ts)) (k3 : RdC w w.heap.size A3 (ubits bs))
    (n0 : ∀ v ∈ l, v.n < 18446744073709551616) (n3 : ∀ n ∈ bs, n < 18446744073709551616) (z0 : l.length ≤ 9223372036854775807) (z2 : ts.length ≤ 9223372036854775807) (z3 : bs.length ≤ 9223372036854775807) :
    Calls Tryd.prog 7 #[.slice A0 l.length c0, .slice A2 ts.length c2, .slice A3 bs.length c3] w fun e w' => e = .returned (.bool true) ∧ Below w.heap.size w w' := by
  have HA := Lib.hid (fun W (hb : Below w.heap.size w W) => on_and hb (alive_any W (G.on hb (Nat.le_refl _))))
  by_cases b0 : 100 < l.length
  · have i1 : decide (100 < (l.length : Int)) = true := by simp; omega
    have i2 : decide (100 < l.length) = true := by simpa using b0
    go_enter Tryd.func7, Tryd.ntmps7
    go_wp2_with (go_at_call 14; refine (HA.out _ (Below.refl _ _)).mono ?_; rintro e w2 ⟨rfl, hb2, _⟩)
    go_ret
    exact ⟨rfl, hb2⟩
  have i1 : decide (100 < (l.length : Int)) = false := by simp; omega
  have i2 : decide (100 < l.length) = false := by simpa using b0
  by_cases b2 : 100 < ts.length
  · have i5 : decide (100 < (ts.length : Int)) = true := by simp; omega
    have i6 : decide (100 < ts.length) = true := by simpa using b2
    go_enter Tryd.func7, Tryd.ntmps7
    go_wp2_with (go_at_call 14; refine (HA.out _ (Below.refl _ _)).mono ?_; rintro e w2 ⟨rfl, hb2, _⟩)
    go_ret
    exact ⟨rfl, hb2⟩
  have i5 : decide (100 < (ts.length : Int)) = false := by simp; omega
  have i6 : decide (100 < ts.length) = false := by simpa using b2
  by_cases b3 : 100 < bs.length
  · have i7 : decide (100 < (bs.length : Int)) = true := by simp; omega
    have i8 : decide (100 < bs.length) = true := by simpa using b3
    go_enter Tryd.func7, Tryd.ntmps7
    go_wp2_with (go_at_call 14; refine (HA.out _ (Below.refl _ _)).mono ?_; rintro e w2 ⟨rfl, hb2, _⟩)
    go_ret
    exact ⟨rfl, hb2⟩
  have i7 : decide (100 < (bs.length : Int)) = false := by simp; omega
  have i8 : decide (100 < bs.length) = false := by simpa using b3
  have h4 := fun W (hb : Below w.heap.size w W) => on_and hb (fit_any A0 A2 c0 c2 l ts W (k0.on hb) (k2.on hb) n0 (by omega) (by omega))
  have h6 := fun W (hb : Below w.heap.size w W) => on_and hb (bits_any A0 c0 l W (k0.on hb) (by omega))
  have h9 := fun W (hb : Below w.heap.size w W) => on_and hb (of_any A3 A2 c3 c2 bs ts W (k3.on hb) (k2.on hb) n3 (by omega) (by omega))
  have h7 := fun W (hb : Below w.heap.size w W) A c (r : RdC W W.heap.size A (ubits (l.map (·.n)))) => on_and hb (of_any A A2 c c2 (l.map (·.n)) ts W r (k2.on hb) (by intro n hn; obtain ⟨v, hv, rfl⟩ := List.mem_map.1 hn; exact n0 v hv) (by simp; omega) (by omega))
  have h8 := fun W (hb : Below w.heap.size w W) A c (r : RdV W W.heap.size A l) => on_and hb (same_any A A0 c c0 l l W r (k0.on hb) (by omega) (by omega))
  have h5 := fun W (hb : Below w.heap.size w W) A c (r : RdV W W.heap.size A (Val.ofv bs ts)) => on_and hb (fit_any A A2 c c2 (Val.ofv bs ts) ts W r (k2.on hb) (Val.ofv_lt n3) (by have := Val.ofv_len bs ts; omega) (by omega))
  have hlo : (Val.ofv bs ts).length ≤ 100 := by have := Val.ofv_len bs ts; omega
  have hmade := Val.made_fit bs ts
  have hback := fun h => Val.fit_back (l := l) (ts := ts) h
  have hlm : (l.map (·.n)).length = l.length := by simp
  simp only [decide_true, hlm] at h8 h7
  obtain ⟨y, hy⟩ : ∃ y, Val.fit l ts = y := ⟨_, rfl⟩
  obtain ⟨M, hM⟩ : ∃ M, l.map (·.n) = M := ⟨_, rfl⟩
  obtain ⟨O, hO⟩ : ∃ O, Val.ofv bs ts = O := ⟨_, rfl⟩
  simp only [hy] at h4 hback
  simp only [hM] at h6 h7 hback
  simp only [hO] at h9 h5 hmade
  rw [hO] at hlo
  have HLO := Lib.hid hlo
  have H4 := Lib.hid h4
  have H5 := Lib.hid h5
  have H6 := Lib.hid h6
  have H7 := Lib.hid h7
  have H8 := Lib.hid h8
  have H9 := Lib.hid h9
  have HM := Lib.hid hmade
  have HBK := Lib.hid hback
  have hb := Lib.hid (Below.refl w.heap.size w)
  clear h4 h5 h6 h7 h8 h9 hy hM hO hlo hlm hmade hback G k0 k2 k3 n0 n3 b0 b2 b3
  rcases y with _ | _
  · by_cases ho : O.length = 0
    · have j1 : ((O.length : Int) == 0) = true := by rw [beq_iff_eq]; omega
      have j2 : (O.length == 0) = true := by simpa using ho
      clear ho
      go_enter Tryd.func7, Tryd.ntmps7
      go_wp2_with (first
        | (go_at_call 19; (with_reducible refine (H4.out _ hb.out).mono ?_); clear H4 hb; rintro e w4 ⟨rfl, hb', _⟩; have hb := Lib.hid hb'; clear hb')
        | (go_at_call 24; (with_reducible refine (H9.out _ hb.out).mono ?_); clear H9 hb; rintro e w9 ⟨⟨A9, c9, rfl, r9⟩, hb', _⟩; have hb := Lib.hid hb'; have R9 := Lib.hid r9; clear hb' r9)
        | (go_at_call 14; refine (HA.out _ hb.out).mono ?_; clear hb; rintro e w12 ⟨rfl, hb', _⟩; have hb := Lib.hid hb'; clear hb'))
      go_ret
      exact ⟨rfl, hb.out⟩
    · have j1 : ((O.length : Int) == 0) = false := by rw [beq_eq_false_iff_ne]; omega
      have j2 : (O.length == 0) = false := by simpa using ho
      have hf : Val.fit O ts = true := by rcases HM.out with h | h; · rw [h] at ho; exact absurd rfl ho
                                          · exact h
      have HF := Lib.hid hf
      clear ho hf
      go_enter Tryd.func7, Tryd.ntmps7
      go_wp2_with (first
        | (go_at_call 19; (with_reducible refine (H4.out _ hb.out).mono ?_); clear H4 hb; rintro e w4 ⟨rfl, hb', _⟩; have hb := Lib.hid hb'; clear hb')
        | (go_at_call 24; (with_reducible refine (H9.out _ hb.out).mono ?_); clear H9 hb; rintro e w9 ⟨⟨A9, c9, rfl, r9⟩, hb', _⟩; have H5' := Lib.hid (H5.out _ hb' A9 c9 r9); rw [HF.out] at H5'; have hb := Lib.hid hb'; clear hb' r9)
        | (go_at_call 19; (with_reducible refine H5'.out.mono ?_); clear hb; rintro e w10 ⟨rfl, hb', _⟩; have hb := Lib.hid hb'; clear hb')
        | (go_at_call 14; refine (HA.out _ hb.out).mono ?_; clear hb; rintro e w12 ⟨rfl, hb', _⟩; have hb := Lib.hid hb'; clear hb'))
      go_ret
      exact ⟨rfl, hb.out⟩
  · have HE := Lib.hid (HBK.out rfl)
    simp only [HE.out] at H7
    clear HBK HE
    by_cases ho : O.length = 0
    · have j1 : ((O.length : Int) == 0) = true := by rw [beq_iff_eq]; omega
      have j2 : (O.length == 0) = true := by simpa using ho
      clear ho
      go_enter Tryd.func7, Tryd.ntmps7
      go_wp2_with (first
        | (go_at_call 19; (with_reducible refine (H4.out _ hb.out).mono ?_); clear H4 hb; rintro e w4 ⟨rfl, hb', _⟩; have hb := Lib.hid hb'; clear hb')
        | (go_at_call 22; (with_reducible refine (H6.out _ hb.out).mono ?_); clear H6 hb; rintro e w6 ⟨⟨A6, c6, rfl, r6⟩, hb', _⟩; have H7' := Lib.hid (H7.out _ hb' A6 c6 r6); have hb := Lib.hid hb'; clear hb' r6 H7)
        | (go_at_call 24; (with_reducible refine H7'.out.mono ?_); clear H7' hb; rintro e w7 ⟨⟨A7, c7, rfl, r7⟩, hb', _⟩; have H8' := Lib.hid (H8.out _ hb' A7 c7 r7); have hb := Lib.hid hb'; clear hb' r7 H8)
        | (go_at_call 17; (with_reducible refine H8'.out.mono ?_); clear H8' hb; rintro e w8 ⟨rfl, hb', _⟩; have hb := Lib.hid hb'; clear hb')
        | (go_at_call 24; (with_reducible refine (H9.out _ hb.out).mono ?_); clear H9 hb; rintro e w9 ⟨⟨A9, c9, rfl, r9⟩, hb', _⟩; have hb := Lib.hid hb'; have R9 := Lib.hid r9; clear hb' r9)
        | (go_at_call 14; refine (HA.out _ hb.out).mono ?_; clear hb; rintro e w12 ⟨rfl, hb', _⟩; have hb := Lib.hid hb'; clear hb'))
      go_ret
      exact ⟨rfl, hb.out⟩
    · have j1 : ((O.length : Int) == 0) = false := by rw [beq_eq_false_iff_ne]; omega
      have j2 : (O.length == 0) = false := by simpa using ho
      have hf : Val.fit O ts = true := by rcases HM.out with h | h; · rw [h] at ho; exact absurd rfl ho
                                          · exact h
      have HF := Lib.hid hf
      clear ho hf
      go_enter Tryd.func7, Tryd.ntmps7
      go_wp2_with (first
        | (go_at_call 19; (with_reducible refine (H4.out _ hb.out).mono ?_); clear H4 hb; rintro e w4 ⟨rfl, hb', _⟩; have hb := Lib.hid hb'; clear hb')
        | (go_at_call 22; (with_reducible refine (H6.out _ hb.out).mono ?_); clear H6 hb; rintro e w6 ⟨⟨A6, c6, rfl, r6⟩, hb', _⟩; have H7' := Lib.hid (H7.out _ hb' A6 c6 r6); have hb := Lib.hid hb'; clear hb' r6 H7)
        | (go_at_call 24; (with_reducible refine H7'.out.mono ?_); clear H7' hb; rintro e w7 ⟨⟨A7, c7, rfl, r7⟩, hb', _⟩; have H8' := Lib.hid (H8.out _ hb' A7 c7 r7); have hb := Lib.hid hb'; clear hb' r7 H8)
        | (go_at_call 17; (with_reducible refine H8'.out.mono ?_); clear H8' hb; rintro e w8 ⟨rfl, hb', _⟩; have hb := Lib.hid hb'; clear hb')
        | (go_at_call 24; (with_reducible refine (H9.out _ hb.out).mono ?_); clear H9 hb; rintro e w9 ⟨⟨A9, c9, rfl, r9⟩, hb', _⟩; have H5' := Lib.hid (H5.out _ hb' A9 c9 r9); rw [HF.out] at H5'; have hb := Lib.hid hb'; clear hb' r9)
        | (go_at_call 19; (with_reducible refine H5'.out.mono ?_); clear hb; rintro e w10 ⟨rfl, hb', _⟩; have hb := Lib.hid hb'; clear hb')
        | (go_at_call 14; refine (HA.out _ hb.out).mono ?_; clear hb; rintro e w12 ⟨rfl, hb', _⟩; have hb := Lib.hid hb'; clear hb'))
      go_ret
      exact ⟨rfl, hb.out⟩
end Go.Proofs.YtilflcbmejhepaaDoor
