/-
  Layer 27, the program: Text, guess and Parse.
-/
import Derived.Test.YtilflcbmejhepaaDoorValOne
set_option linter.unusedVariables false
set_option linter.unusedSimpArgs false
namespace Go.Proofs.YtilflcbmejhepaaDoor
open Go.RowKit
open Val (V)

theorem itoa_len {k : Int} (h0 : -9223372036854775808 ≤ k) (h1 : k ≤ 9223372036854775807) : (Lib.itoa k).length ≤ 21 := by
  unfold Lib.itoa
  split
  · have := Val.dec_len64 (u := k.natAbs) (by omega)
    simp; omega
  · have := Val.dec_len64 (u := k.toNat) (by omega)
    omega
set_option maxHeartbeats 2000000 in
theorem reference_any (n : Nat) (hn : n < 18446744073709551616) (k : List UInt8) (hk : k.length ≤ 100) (w : World) (ht : Tab w) : Calls Tryd.prog 30 #[.int .u64 (n : Int), .string ⟨k.toArray⟩] w fun e w' => e = .returned (.string ⟨(Val.refT n k).toArray⟩) ∧ Below w.heap.size w w' := by
  unfold Val.refT
  by_cases h0 : n = 0
  · subst h0
    rw [if_pos rfl]
    have l1 : ¬ 9223372036854775807 < 9 + k.length := by omega
    go_enter Tryd.func30, Tryd.ntmps30
    go_wp2_with fail
    go_ret
    exact ⟨rfl, Below.refl _ _⟩
  · rw [if_neg h0]
    have hd := Val.dec_len64 (u := n - 1) (by omega)
    have l1 : ¬ 9223372036854775807 < 4 + k.length := by omega
    have l2 : ¬ 9223372036854775807 < k.length + 4 + 1 := by omega
    have l3 : ¬ 9223372036854775807 < k.length + 1 + 4 + (Lib.decDigits (n - 1)).length := by omega
    clear hd
    have h1 : ((n : Int) == 0) = false := by simpa using h0
    have u1 : IntKind.u64.wrap ((n : Int) - 1) = ((n - 1 : Nat) : Int) := by rw [IntKind.wrap_u64]; omega
    have e1 : ({ data := #[114, 101, 102, 46] } : ByteArray) ++ ⟨k.toArray⟩ ++ ⟨#[32]⟩ ++ ⟨(Lib.decDigits (n - 1)).toArray⟩ = ⟨([114, 101, 102, 46] ++ k ++ [32] ++ Lib.decDigits (n - 1)).toArray⟩ := by
      rw [← bytes_cat, ← bytes_cat, ← bytes_cat]
    have HC := Lib.hid (formatUint_any (n - 1) (by omega) w ht)
    have E1 := Lib.hid e1
    clear e1 h0
    go_enter Tryd.func30, Tryd.ntmps30
    go_wp2_with (go_at_call 44; refine HC.out.mono ?_; rintro e w1 ⟨rfl, hb⟩)
    go_ret
    exact ⟨congrArg (fun s => Ending.returned (.string s)) E1.out, hb⟩
set_option maxHeartbeats 4000000 in
set_option maxRecDepth 100000 in
theorem text_any (v : V) (hn : v.n < 18446744073709551616) (w : World) (ht : Tab w) : Calls Tryd.prog 10 #[vv v] w fun e w' => e = .returned (.string ⟨(Val.text v).toArray⟩) ∧ Below w.heap.size w w' := by
  have hR := fun W => right_any v hn W
  have HR := Lib.hid hR
  clear hR
  unfold Val.text
  rcases h : Val.right v with _ | _
  · rw [if_neg (by decide)]
    have H := Lib.hid h
    clear h
    obtain ⟨t, n⟩ := v
    unfold vv at *
    dsimp only at *
    go_enter Tryd.func10, Tryd.ntmps10
    go_wp2_with (go_at_call 8; refine (HR.out _).mono ?_; rintro e w1 ⟨rfl, hb⟩; rw [H.out])
    go_ret
    exact ⟨rfl, Below.trans (by go_grown) (hb.mono (by simp))⟩
  · rw [if_pos rfl]
    have hr := (Val.right_iff v).1 h
    have H := Lib.hid h
    clear h
    obtain ⟨t, n⟩ := v
    unfold vv at *
    dsimp only at *
    have hst : Var (w.alloc (.cells #[.int .i64 t, .int .u64 (n : Int)] 25)) w.heap.size #[.int .i64 t, .int .u64 (n : Int)] 25 := Var.new _ _ _
    have HST := Lib.hid hst
    clear hst
    obtain ⟨h1, h4, h5⟩ := hr
    have hcase : t = 1 ∨ t = 2 ∨ t = 3 ∨ t = 4 := by omega
    clear h1 h4
    rcases hcase with rfl | rfl | rfl | rfl
    · have h6 := h5 rfl
      have u1 : IntKind.u32.wrap (n : Int) = (n : Int) := by rw [IntKind.wrap_u32]; omega
      have u2 : IntKind.i32.wrap (n : Int) = Val.s32 n := by rw [IntKind.wrap_i32]; unfold Val.s32; split <;> omega
      have hb := Val.s32_in n
      have u3 : IntKind.i64.wrap (Val.s32 n) = Val.s32 n := by rw [IntKind.wrap_i64]; omega
      have HC : Hid (∀ W, Tab W → _) := Lib.hid (fun W hT => itoa_any (Val.s32 n) (by omega) (by omega) W hT)
      have HT := Lib.hid ht
      clear hb h5 h6 ht
      rw [if_pos rfl]
      have e1 := bytes_cat [105, 51, 50, 32] (Lib.itoa (Val.s32 n))
      have l1 : ¬ 9223372036854775807 < 4 + (Lib.itoa (Val.s32 n)).length := by have := Val.s32_in n; have := itoa_len (k := Val.s32 n) (by omega) (by omega); omega
      have E1 := Lib.hid e1
      clear e1
      go_enter Tryd.func10, Tryd.ntmps10
      go_wp2_with (first
        | (go_at_call 8; refine (HR.out _).mono ?_; rintro e w1 ⟨rfl, hb⟩; rw [H.out]; have HB := Lib.hid hb; have hv := HST.out.below hb (by simp); have r0 := hv.cells 0; have r1 := hv.cells 1; clear hv hb)
        | (go_at_call 28; refine (HC.out _ (HT.out.on (below_one HB.out) (Nat.le_refl _))).mono ?_; rintro e w2 ⟨rfl, hb2⟩))
      go_ret
      exact ⟨congrArg (fun s => Ending.returned (.string s)) E1.out, below_box HB.out hb2⟩
    · have u1 : IntKind.i64.wrap (n : Int) = Val.s64 n := by rw [IntKind.wrap_i64]; unfold Val.s64; split <;> omega
      have hb := Val.s64_in hn
      have HC : Hid (∀ W, Tab W → _) := Lib.hid (fun W hT => formatInt_any (Val.s64 n) (by omega) (by omega) W hT)
      have HT := Lib.hid ht
      clear hb h5 ht
      rw [if_neg (by decide), if_pos rfl]
      have e1 := bytes_cat [105, 54, 52, 32] (Lib.itoa (Val.s64 n))
      have l1 : ¬ 9223372036854775807 < 4 + (Lib.itoa (Val.s64 n)).length := by have := Val.s64_in hn; have := itoa_len (k := Val.s64 n) (by omega) (by omega); omega
      have E1 := Lib.hid e1
      clear e1
      go_enter Tryd.func10, Tryd.ntmps10
      go_wp2_with (first
        | (go_at_call 8; refine (HR.out _).mono ?_; rintro e w1 ⟨rfl, hb⟩; rw [H.out]; have HB := Lib.hid hb; have hv := HST.out.below hb (by simp); have r0 := hv.cells 0; have r1 := hv.cells 1; clear hv hb)
        | (go_at_call 29; refine (HC.out _ (HT.out.on (below_one HB.out) (Nat.le_refl _))).mono ?_; rintro e w2 ⟨rfl, hb2⟩))
      go_ret
      exact ⟨congrArg (fun s => Ending.returned (.string s)) E1.out, below_box HB.out hb2⟩
    · have HC : Hid (∀ W, Tab W → _) := Lib.hid (fun W hT => reference_any n hn Val.bFunc (by decide) W hT)
      have HT := Lib.hid ht
      clear h5 ht
      rw [if_neg (by decide), if_neg (by decide), if_pos rfl]
      go_enter Tryd.func10, Tryd.ntmps10
      go_wp2_with (first
        | (go_at_call 8; refine (HR.out _).mono ?_; rintro e w1 ⟨rfl, hb⟩; rw [H.out]; have HB := Lib.hid hb; have hv := HST.out.below hb (by simp); have r0 := hv.cells 0; have r1 := hv.cells 1; clear hv hb)
        | (go_at_call 30; refine (HC.out _ (HT.out.on (below_one HB.out) (Nat.le_refl _))).mono ?_; rintro e w2 ⟨rfl, hb2⟩))
      go_ret
      exact ⟨rfl, below_box HB.out hb2⟩
    · have HC : Hid (∀ W, Tab W → _) := Lib.hid (fun W hT => reference_any n hn Val.bExtern (by decide) W hT)
      have HT := Lib.hid ht
      clear h5 ht
      rw [if_neg (by decide), if_neg (by decide), if_neg (by decide)]
      go_enter Tryd.func10, Tryd.ntmps10
      go_wp2_with (first
        | (go_at_call 8; refine (HR.out _).mono ?_; rintro e w1 ⟨rfl, hb⟩; rw [H.out]; have HB := Lib.hid hb; have hv := HST.out.below hb (by simp); have r0 := hv.cells 0; have r1 := hv.cells 1; clear hv hb)
        | (go_at_call 30; refine (HC.out _ (HT.out.on (below_one HB.out) (Nat.le_refl _))).mono ?_; rintro e w2 ⟨rfl, hb2⟩))
      go_ret
      exact ⟨rfl, below_box HB.out hb2⟩

theorem results_cell_row_tmp {P : Program} {fn : Func} {p u : Tmp} {ty : TypeId} (h : fn.results = #[.cell p ty, .tmp u]) (tmps : Array Value) (w : World) (g : Nat) (t : TypeId) (cs : Array Value) (fr : Nat × Nat) (d : TypeDesc)
    (hp : tmps.getD p undef = .pointer (some ⟨g, 0, none⟩)) (hg : w.heap[g]? = some (.cells cs t fr))
    (hu : P.underlying ty = some d) (hd : (match d with | .struct _ | .array _ _ => true | _ => false) = true) (hi : (P.info? ty).map (·.size) = some cs.size) :
    (results fn tmps).run P w = .ok (.tuple #[.agg cs, tmps.getD u undef]) w := by
  have hp' : tmps[p]?.getD undef = .pointer (some ⟨g, 0, none⟩) := by simpa using hp
  simp [results, h, hp', asAddr, run_loadVar_row w g t ty cs fr d hg hu hd hi]
theorem beq_bytes (a b : List UInt8) : (({ data := a.toArray } : ByteArray) == { data := b.toArray }) = decide (a = b) := by
  show (a.toArray == b.toArray) = _
  rw [Bool.eq_iff_iff]; simp
theorem beq_no {a b : List UInt8} (h : a ≠ b) : (({ data := a.toArray } : ByteArray) == { data := b.toArray }) = false := by rw [beq_bytes]; simpa using h
theorem bne_no {a b : List UInt8} (h : a ≠ b) : (({ data := a.toArray } : ByteArray) != { data := b.toArray }) = true := by
  show (!(({ data := a.toArray } : ByteArray) == { data := b.toArray })) = true
  rw [beq_no h]; rfl
theorem below_set {B : Nat} {w w' : World} (h : Below B w w') {K : Nat} (hK : B ≤ K) (a b : Value) : Below B w ((w'.setCell ⟨K, 0, none⟩ a).setCell ⟨K, 1, none⟩ b) :=
  (h.setCell (p := ⟨K, 0, none⟩) hK a).setCell (p := ⟨K, 1, none⟩) hK b
theorem cut_len (l : List UInt8) : (Lib.cut l [32]).2.1.length ≤ l.length := by
  unfold Lib.cut
  split
  · simp
  · simp

set_option maxHeartbeats 8000000 in
set_option maxRecDepth 100000 in
theorem guess_any (l : List UInt8) (hl : l.length ≤ 1000000) (w : World) (G : Glob w) : Calls Tryd.prog 33 #[.string ⟨l.toArray⟩] w fun e w' => e = .returned (vv (Val.pv l)) ∧ Below w.heap.size w w' := by
  have HC := Lib.hid (fun W => cut_any l hl W)
  have hlen := cut_len l
  unfold Val.pv
  obtain ⟨⟨a, b, c⟩, hx⟩ : ∃ x, Lib.cut l [32] = x := ⟨_, rfl⟩
  rw [hx] at HC hlen ⊢
  dsimp only at HC hlen ⊢
  have HP := Lib.hid (fun (W : World) (g : Glob W) => parseInt_any b (by omega) W g)
  have HQ := Lib.hid (fun (W : World) (g : Glob W) => parseUint_any b (by omega) W g)
  have hu := Val.uintOf_lt b
  obtain ⟨k, hk⟩ : ∃ k, Val.intOf b = k := ⟨_, rfl⟩
  obtain ⟨u, hv⟩ : ∃ u, Val.uintOf b = u := ⟨_, rfl⟩
  unfold Val.gP
  rw [hk] at HP ⊢
  rw [hv] at HQ hu ⊢
  have HST := Lib.hid (Var.new w #[.int .i64 0, .int .u64 0] 25)
  have GG := Lib.hid (G.on ((Below.refl w.heap.size w).alloc (Nat.le_refl _) (.cells #[.int .i64 0, .int .u64 0] 25)) (Nat.le_refl _))
  have u1 : IntKind.u32.wrap k = ((k % 4294967296).toNat : Int) := by rw [IntKind.wrap_u32]; omega
  have u2 : IntKind.u64.wrap ((k % 4294967296).toNat : Int) = ((k % 4294967296).toNat : Int) := by rw [IntKind.wrap_u64]; omega
  rw [show ([114, 101, 102, 46] ++ Val.bFunc : List UInt8) = [114, 101, 102, 46, 102, 117, 110, 99] from rfl, show ([114, 101, 102, 46] ++ Val.bExtern : List UInt8) = [114, 101, 102, 46, 101, 120, 116, 101, 114, 110] from rfl]
  have u3 : IntKind.u64.wrap k = ((k % 18446744073709551616).toNat : Int) := by rw [IntKind.wrap_u64]; omega
  have u4 : IntKind.u64.wrap ((u : Int) + 1) = (((u + 1) % 18446744073709551616 : Nat) : Int) := by rw [IntKind.wrap_u64]; omega
  obtain ⟨p, hp⟩ : ∃ p, (k % 4294967296).toNat = p := ⟨_, rfl⟩
  obtain ⟨q, hq⟩ : ∃ q, (k % 18446744073709551616).toNat = q := ⟨_, rfl⟩
  obtain ⟨r, hr⟩ : ∃ r, (u + 1) % 18446744073709551616 = r := ⟨_, rfl⟩
  rw [hp] at u1 u2 ⊢
  rw [hq] at u3 ⊢
  rw [hr] at u4 ⊢
  clear hk hv hx hlen hu hl G hp hq hr
  by_cases k0 : a = [105, 51, 50]
  · rw [if_pos k0]
    subst k0
    go_enter Tryd.func33, Tryd.ntmps33
    go_wp2_with (first
      | (go_at_call 46; refine (HC.out _).mono ?_; rintro e w1 ⟨rfl, hb⟩; have HB := Lib.hid hb; clear hb)
      | (go_at_call 47; refine (HP.out _ (GG.out.on HB.out (Nat.le_refl _))).mono ?_; rintro e w2 ⟨⟨ev, rfl⟩, hb⟩; have HB2 := Lib.hid (HB.out.trans (hb.mono HB.out.size)); clear hb)
      | (go_at_call 48; refine (HQ.out _ (GG.out.on HB2.out (Nat.le_refl _))).mono ?_; rintro e w3 ⟨⟨ev2, rfl⟩, hb⟩; have HB3 := Lib.hid (HB2.out.trans (hb.mono HB2.out.size)); have HV := Lib.hid (HST.out.below HB3.out (by simp)); have r0 := HV.out.cells 0; have r1 := HV.out.cells 1; have z0 := HV.out.froz 0; have z1 := HV.out.froz 1; clear hb))
    refine bodyPost_ret (results_cell_row rfl _ _ w.heap.size _ _ (0, 0) _ rfl ((HV.out.set 0 _).set 1 _) Tryd.underlying25 rfl (by kernel_rfl)) rfl ?_
    exact ⟨rfl, below_set (below_one HB3.out) (Nat.le_refl _) _ _⟩
  have b0 : (a == [105, 51, 50]) = false := by simpa using k0
  by_cases k1 : a = [105, 54, 52]
  · rw [if_neg k0, if_pos k1]
    subst k1
    clear k0
    go_enter Tryd.func33, Tryd.ntmps33
    go_wp2_with (first
      | (go_at_call 46; refine (HC.out _).mono ?_; rintro e w1 ⟨rfl, hb⟩; have HB := Lib.hid hb; clear hb)
      | (go_at_call 47; refine (HP.out _ (GG.out.on HB.out (Nat.le_refl _))).mono ?_; rintro e w2 ⟨⟨ev, rfl⟩, hb⟩; have HB2 := Lib.hid (HB.out.trans (hb.mono HB.out.size)); clear hb)
      | (go_at_call 48; refine (HQ.out _ (GG.out.on HB2.out (Nat.le_refl _))).mono ?_; rintro e w3 ⟨⟨ev2, rfl⟩, hb⟩; have HB3 := Lib.hid (HB2.out.trans (hb.mono HB2.out.size)); have HV := Lib.hid (HST.out.below HB3.out (by simp)); have r0 := HV.out.cells 0; have r1 := HV.out.cells 1; have z0 := HV.out.froz 0; have z1 := HV.out.froz 1; clear hb))
    refine bodyPost_ret (results_cell_row rfl _ _ w.heap.size _ _ (0, 0) _ rfl ((HV.out.set 0 _).set 1 _) Tryd.underlying25 rfl (by kernel_rfl)) rfl ?_
    exact ⟨rfl, below_set (below_one HB3.out) (Nat.le_refl _) _ _⟩
  have b1 : (a == [105, 54, 52]) = false := by simpa using k1
  by_cases k2 : a = [114, 101, 102, 46, 102, 117, 110, 99]
  · rw [if_neg k0, if_neg k1, if_pos k2]
    subst k2
    clear k0 k1
    go_enter Tryd.func33, Tryd.ntmps33
    go_wp2_with (first
      | (go_at_call 46; refine (HC.out _).mono ?_; rintro e w1 ⟨rfl, hb⟩; have HB := Lib.hid hb; clear hb)
      | (go_at_call 47; refine (HP.out _ (GG.out.on HB.out (Nat.le_refl _))).mono ?_; rintro e w2 ⟨⟨ev, rfl⟩, hb⟩; have HB2 := Lib.hid (HB.out.trans (hb.mono HB.out.size)); clear hb)
      | (go_at_call 48; refine (HQ.out _ (GG.out.on HB2.out (Nat.le_refl _))).mono ?_; rintro e w3 ⟨⟨ev2, rfl⟩, hb⟩; have HB3 := Lib.hid (HB2.out.trans (hb.mono HB2.out.size)); have HV := Lib.hid (HST.out.below HB3.out (by simp)); have r0 := HV.out.cells 0; have r1 := HV.out.cells 1; have z0 := HV.out.froz 0; have z1 := HV.out.froz 1; clear hb))
    refine bodyPost_ret (results_cell_row rfl _ _ w.heap.size _ _ (0, 0) _ rfl ((HV.out.set 0 _).set 1 _) Tryd.underlying25 rfl (by kernel_rfl)) rfl ?_
    exact ⟨rfl, below_set (below_one HB3.out) (Nat.le_refl _) _ _⟩
  have b2 : (a == [114, 101, 102, 46, 102, 117, 110, 99]) = false := by simpa using k2
  by_cases k3 : a = [114, 101, 102, 46, 101, 120, 116, 101, 114, 110]
  · rw [if_neg k0, if_neg k1, if_neg k2, if_pos k3]
    subst k3
    clear k0 k1 k2
    go_enter Tryd.func33, Tryd.ntmps33
    go_wp2_with (first
      | (go_at_call 46; refine (HC.out _).mono ?_; rintro e w1 ⟨rfl, hb⟩; have HB := Lib.hid hb; clear hb)
      | (go_at_call 47; refine (HP.out _ (GG.out.on HB.out (Nat.le_refl _))).mono ?_; rintro e w2 ⟨⟨ev, rfl⟩, hb⟩; have HB2 := Lib.hid (HB.out.trans (hb.mono HB.out.size)); clear hb)
      | (go_at_call 48; refine (HQ.out _ (GG.out.on HB2.out (Nat.le_refl _))).mono ?_; rintro e w3 ⟨⟨ev2, rfl⟩, hb⟩; have HB3 := Lib.hid (HB2.out.trans (hb.mono HB2.out.size)); have HV := Lib.hid (HST.out.below HB3.out (by simp)); have r0 := HV.out.cells 0; have r1 := HV.out.cells 1; have z0 := HV.out.froz 0; have z1 := HV.out.froz 1; clear hb))
    refine bodyPost_ret (results_cell_row rfl _ _ w.heap.size _ _ (0, 0) _ rfl ((HV.out.set 0 _).set 1 _) Tryd.underlying25 rfl (by kernel_rfl)) rfl ?_
    exact ⟨rfl, below_set (below_one HB3.out) (Nat.le_refl _) _ _⟩
  have b3 : (a == [114, 101, 102, 46, 101, 120, 116, 101, 114, 110]) = false := by simpa using k3
  rw [if_neg k0, if_neg k1, if_neg k2, if_neg k3]
  clear k0 k1 k2 k3
  by_cases k4 : b = Val.bFunc
  · rw [if_pos k4]
    have b4 : (b == [102, 117, 110, 99]) = true := by rw [k4]; rfl
    clear k4
    go_enter Tryd.func33, Tryd.ntmps33
    go_wp2_with (first
      | (go_at_call 46; refine (HC.out _).mono ?_; rintro e w1 ⟨rfl, hb⟩; have HB := Lib.hid hb; clear hb)
      | (go_at_call 47; refine (HP.out _ (GG.out.on HB.out (Nat.le_refl _))).mono ?_; rintro e w2 ⟨⟨ev, rfl⟩, hb⟩; have HB2 := Lib.hid (HB.out.trans (hb.mono HB.out.size)); clear hb)
      | (go_at_call 48; refine (HQ.out _ (GG.out.on HB2.out (Nat.le_refl _))).mono ?_; rintro e w3 ⟨⟨ev2, rfl⟩, hb⟩; have HB3 := Lib.hid (HB2.out.trans (hb.mono HB2.out.size)); have HV := Lib.hid (HST.out.below HB3.out (by simp)); have r0 := HV.out.cells 0; have r1 := HV.out.cells 1; have z0 := HV.out.froz 0; have z1 := HV.out.froz 1; clear hb))
    refine bodyPost_ret (results_cell_row rfl _ _ w.heap.size _ _ (0, 0) _ rfl ((HV.out.set 0 _).set 1 _) Tryd.underlying25 rfl (by kernel_rfl)) rfl ?_
    exact ⟨rfl, below_set (below_one HB3.out) (Nat.le_refl _) _ _⟩
  · rw [if_neg k4]
    have b4 : (b == [102, 117, 110, 99]) = false := by unfold Val.bFunc at k4; simpa using k4
    clear k4
    go_enter Tryd.func33, Tryd.ntmps33
    go_wp2_with (first
      | (go_at_call 46; refine (HC.out _).mono ?_; rintro e w1 ⟨rfl, hb⟩; have HB := Lib.hid hb; clear hb)
      | (go_at_call 47; refine (HP.out _ (GG.out.on HB.out (Nat.le_refl _))).mono ?_; rintro e w2 ⟨⟨ev, rfl⟩, hb⟩; have HB2 := Lib.hid (HB.out.trans (hb.mono HB.out.size)); clear hb)
      | (go_at_call 48; refine (HQ.out _ (GG.out.on HB2.out (Nat.le_refl _))).mono ?_; rintro e w3 ⟨⟨ev2, rfl⟩, hb⟩; have HB3 := Lib.hid (HB2.out.trans (hb.mono HB2.out.size)); have HV := Lib.hid (HST.out.below HB3.out (by simp)); have r0 := HV.out.cells 0; have r1 := HV.out.cells 1; have z0 := HV.out.froz 0; have z1 := HV.out.froz 1; clear hb))
    refine bodyPost_ret (results_cell_row rfl _ _ w.heap.size _ _ (0, 0) _ rfl ((HV.out.set 0 _).set 1 _) Tryd.underlying25 rfl (by kernel_rfl)) rfl ?_
    exact ⟨rfl, below_set (below_one HB3.out) (Nat.le_refl _) _ _⟩

set_option maxHeartbeats 8000000 in
set_option maxRecDepth 100000 in
theorem parse_any (l : List UInt8) (hl : l.length ≤ 1000000) (w : World) (G : Glob w) : Calls Tryd.prog 15 #[.string ⟨l.toArray⟩] w fun e w' => e = .returned (.tuple #[vv (Val.parse l).1, .bool (Val.parse l).2]) ∧ Below w.heap.size w w' := by
  have HG := Lib.hid (fun (W : World) (g : Glob W) => guess_any l hl W g)
  have hlt := Val.pv_lt l
  unfold Val.parse
  obtain ⟨v, hv⟩ : ∃ v, Val.pv l = v := ⟨_, rfl⟩
  rw [hv] at HG hlt ⊢
  have HT := Lib.hid (fun (W : World) (t : Tab W) => text_any v hlt W t)
  have HST := Lib.hid (Var.new w #[.int .i64 0, .int .u64 0] 25)
  have GG := Lib.hid (G.on ((Below.refl w.heap.size w).alloc (Nat.le_refl _) (.cells #[.int .i64 0, .int .u64 0] 25)) (Nat.le_refl _))
  clear hv hlt hl G
  obtain ⟨t, n⟩ := v
  unfold vv at *
  dsimp only at *
  by_cases k0 : Val.text ⟨t, n⟩ = l
  · rw [if_pos k0]
    rw [k0] at HT
    clear k0
    go_enter Tryd.func15, Tryd.ntmps15
    go_wp2_with (first
      | (go_at_call 33; refine (HG.out _ GG.out).mono ?_; rintro e w1 ⟨rfl, hb⟩; have HB := Lib.hid (below_one hb); have HV := Lib.hid (HST.out.below hb (by simp)); have GB := Lib.hid (GG.out.on hb (Nat.le_refl _)); clear hb)
      | (go_at_call 10; refine (HT.out _ (GB.out.on ((Below.refl _ _).alloc (Nat.le_refl _) _) (Nat.le_refl _)).tab).mono ?_; rintro e w2 ⟨rfl, hb⟩; have hn := (Var.new _ _ _).below hb (by simp); have hv := (HV.out.alloc _).below hb (by have := HV.out.lt; simp; omega); have r0 := hn.cells 0; have r1 := hn.cells 1; have r2 := hv.cells 0; have r3 := hv.cells 1; have z2 := hv.froz 0; have z3 := hv.froz 1; have HV2 := Lib.hid hv; have HB2 := Lib.hid (HB.out.trans ((below_one hb).mono HB.out.size)); clear hn hv hb))
    refine bodyPost_ret (results_cell_row_tmp rfl _ _ w.heap.size _ _ (0, 0) _ rfl ((HV2.out.set 0 _).set 1 _) Tryd.underlying25 rfl (by kernel_rfl)) rfl ?_
    exact ⟨rfl, below_set HB2.out (Nat.le_refl _) _ _⟩
  · rw [if_neg k0]
    obtain ⟨x, hx⟩ : ∃ x, Val.text ⟨t, n⟩ = x := ⟨_, rfl⟩
    rw [hx] at k0 HT
    have b0 : (x == l) = false := by simpa using k0
    clear k0 hx
    go_enter Tryd.func15, Tryd.ntmps15
    go_wp2_with (first
      | (go_at_call 33; refine (HG.out _ GG.out).mono ?_; rintro e w1 ⟨rfl, hb⟩; have HB := Lib.hid (below_one hb); have HV := Lib.hid (HST.out.below hb (by simp)); have GB := Lib.hid (GG.out.on hb (Nat.le_refl _)); clear hb)
      | (go_at_call 10; refine (HT.out _ (GB.out.on ((Below.refl _ _).alloc (Nat.le_refl _) _) (Nat.le_refl _)).tab).mono ?_; rintro e w2 ⟨rfl, hb⟩; have hn := (Var.new _ _ _).below hb (by simp); have hv := (HV.out.alloc _).below hb (by have := HV.out.lt; simp; omega); have r0 := hn.cells 0; have r1 := hn.cells 1; have r2 := hv.cells 0; have r3 := hv.cells 1; have z2 := hv.froz 0; have z3 := hv.froz 1; have HV2 := Lib.hid hv; have HB2 := Lib.hid (HB.out.trans ((below_one hb).mono HB.out.size)); clear hn hv hb))
    refine bodyPost_ret (results_cell_row_tmp rfl _ _ w.heap.size _ _ (0, 0) _ rfl ((HV2.out.set 0 _).set 1 _) Tryd.underlying25 rfl (by kernel_rfl)) rfl ?_
    exact ⟨rfl, below_set HB2.out (Nat.le_refl _) _ _⟩
end Go.Proofs.YtilflcbmejhepaaDoor
