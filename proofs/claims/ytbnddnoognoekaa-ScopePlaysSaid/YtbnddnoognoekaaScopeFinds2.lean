/-
  The walk of the law ScopeFinds: a kind that there is.
-/
import Derived.Test.YtbnddnoognoekaaScopeFinds
set_option linter.unusedVariables false
namespace Go.Proofs.Ytbnddnoognoekaa
open Go.RowKit Go.Maps

set_option maxHeartbeats 4000000 in
set_option maxRecDepth 100000 in
theorem finds_good (kd : Int) (A : Option Addr) (c : Nat) (l : List Nm) (w : World) (hk : (Lit.int .i64 kd).wf = true) (hr : RdS w w.heap.size A l) (hl : l.length ≤ 40) (hkd : 0 ≤ kd ∧ kd < 9) :
    Calls Try.prog 4 #[.int .i64 kd, .slice A l.length c] w fun e w' => e = .returned (.bool true) ∧ Below w.heap.size w w' := by
  obtain ⟨B, hB⟩ : ∃ B, w.heap.size = B := ⟨_, rfl⟩
  have C0 : Hid (Calls Try.prog 8 #[] w fun e w' => e = .returned (.pointer (some ⟨B + 1, 0, none⟩)) ∧ NewAt w w' B 9) := by have := new_any w; rw [hB] at this; exact this
  rw [hB] at hr ⊢
  clear hB
  obtain ⟨K, hK⟩ : ∃ K, kd.toNat = K := ⟨_, rfl⟩
  obtain ⟨i0, hi0, hz0, hz1, hz2⟩ := info_parts info_string
  have g1 : decide ((40 : Int) < (l.length : Int)) = false := by simp; omega
  have n1 : decide (kd < 0) = false := by simp; omega
  have n2 : decide (8 < kd) = false := by simp; omega
  have HKD := Lib.hid hkd
  have HK := Lib.hid hK
  clear hkd hK
  go_enter Try.func4, Try.ntmps4
  go_wp2_with fail
  refine C0.out.mono ?_
  rintro e w1 ⟨rfl, hN⟩
  obtain ⟨y0, h0⟩ : ∃ y0, ScopeAt w1 B (B + 1) y0 ⟨upd (fun _ => []) K [], []⟩ := by
    have e : upd (fun _ => ([] : List Nm)) K [] = fun _ => [] := by funext j; unfold upd; split <;> rfl
    rw [e]
    exact ⟨_, hN.scope⟩
  have b0 := hN.bel
  have H0 : FInv w w1 B K (.slice none 0 0) [] := ⟨_, h0, nil_row _ _ _ _, fun g hg => (by cases hg), b0⟩
  clear hN C0 h0 b0
  go_wp2_with fail
  go_loopw [6, 7] (fun v i wr => ∃ (k : Nat) (xs : List Nm), k ≤ l.length ∧ i = .int .i64 k ∧ FInv w wr B K v xs ∧ GoodN xs ∧ xs.length ≤ k) (fun _ i _ => l.length - (intOf i).toNat)
  case atStart => exact ⟨0, [], by omega, rfl, H0, GoodN.nil, by simp⟩
  case round =>
    obtain ⟨k, xs, hk', rfl, hI, hG, hxk⟩ := hrel
    clear H0
    obtain ⟨y', hS, hown, hsep, hb⟩ := hI
    have hsz : B ≤ wr.heap.size := by have := (hS.foot_in (b := B + 1) (.inl rfl)).2; omega
    obtain ⟨Av, cv, hv⟩ : ∃ Av cv, u6 = .slice Av xs.length cv := by
      rcases hown.2 with ⟨h1, h2⟩ | ⟨g, cap, cur, h1, _⟩
      · exact ⟨none, 0, by rw [h1, h2]⟩
      · exact ⟨_, cap, h1⟩
    subst hv
    by_cases hkl : k < l.length
    · obtain ⟨ad, rfl, hblk, hcell0⟩ := hr.at_ hkl
      have hcell := (hb.cell (p := ad.add k) (by rw [block_of_add]; exact hblk)).trans hcell0
      have k0 : (0 : Int) ≤ (k : Int) := Int.natCast_nonneg _
      have k1 : (k : Int) < (l.length : Int) := by omega
      obtain ⟨x, hx⟩ : ∃ x, l[k] = x := ⟨_, rfl⟩
      rw [hx] at hcell
      clear hcell0 hx
      by_cases hxl : x.length ≤ 40
      · have g2 : decide ((40 : Int) < (x.length : Int)) = false := by simp; omega
        have hkK : (⟨upd (fun _ => []) K xs, []⟩ : SSt).k kd.toNat = xs := by rw [HK.out]; show upd (fun _ => ([] : List Nm)) K xs K = xs; exact upd_same _ _ _
        have HS := Lib.hid hS
        have HO := Lib.hid hown
        have HP := Lib.hid hsep
        have HG := Lib.hid hG
        have HX : Hid (xs.length ≤ 40) := Lib.hid (by omega)
        -- the two ways on which nothing is added, the two ways on which the name is added
        have ways : (∃ er : Int, (er == 0) = false ∧ Calls Try.prog 9 #[.pointer (some ⟨B + 1, 0, none⟩), .int .i64 kd, .string ⟨x.toArray⟩] wr fun e w' => e = .returned (.tuple #[.int .i64 0, .int .i64 er]) ∧ wr = w') ∨
            (GoodN (xs ++ [x]) ∧ Calls Try.prog 9 #[.pointer (some ⟨B + 1, 0, none⟩), .int .i64 kd, .string ⟨x.toArray⟩] wr fun e w' => e = .returned (.tuple #[.int .i64 (xs.length : Int), .int .i64 0]) ∧ ∃ y2, ScopeAt w' B (B + 1) y2 ⟨upd (fun _ => []) K (xs ++ [x]), []⟩ ∧ Turned wr w' B (B + 1) y' y2) := by
          by_cases hx0 : x = []
          · subst hx0
            refine .inr ⟨hG.empty, ?_⟩
            have := add_empty hS kd hk HKD.out (by rw [hkK]; omega)
            rw [hkK, HK.out] at this
            dsimp only at this
            rw [upd_upd] at this
            exact this
          · cases hn : Ltr.name x with
            | false => exact .inl ⟨24, by decide, add_name hS kd hk x HKD.out hx0 hn (by omega)⟩
            | true =>
              cases hf : Sc.find xs x with
              | some i => exact .inl ⟨21, by decide, add_twice hS kd hk x HKD.out hx0 hn (by omega) i (by rw [hkK]; exact hf)⟩
              | none =>
                refine .inr ⟨hG.snoc x hx0 hn hf hxl, ?_⟩
                have := add_new hS kd hk x HKD.out hx0 hn (by omega) (by rw [hkK]; exact hf) (by rw [hkK]; omega)
                rw [hkK, HK.out] at this
                dsimp only at this
                rw [upd_upd] at this
                exact this
        clear hkK hS hown hsep hG
        rcases ways with ⟨er, her, hA⟩ | ⟨hG2, hA⟩
        · have HA := Lib.hid hA
          clear hA
          go_wp2_with (go_at_call 9; refine HA.out.mono ?_; rintro e w4 ⟨rfl, rfl⟩)
          go_roundw
          case rel => exact ⟨k + 1, xs, by omega, by go_num, ⟨y', HS.out, HO.out, HP.out, hb⟩, HG.out, by omega⟩
          case measure => simp [intOf]; omega
        · have HA := Lib.hid hA
          have HG2 := Lib.hid hG2
          clear hA hG2
          go_wp2_with (first
            | (go_at_call 9; refine HA.out.mono ?_; rintro e w4 ⟨rfl, y2, h2, t2⟩; obtain ⟨h2', hown2, hsep2, hb2⟩ := FInv.turned HO.out HP.out hb h2 t2; have hcell4 := (hb2.cell (p := ad.add k) (by rw [block_of_add]; exact hblk)).trans ((hb.cell (p := ad.add k) (by rw [block_of_add]; exact hblk)).symm.trans hcell); have hsz4 : B ≤ w4.heap.size := Nat.le_trans hsz t2.bel.size; clear hcell)
            | (at_builtin; (refine app_one _ _ rfl (.tmp 67) (.tmp 72) 22 rfl B 9 i0 _ 1 16 Try.underlying22 hi0 hz0 hz1 hz2 rfl (by omega) rfl (one_str x) _ xs.length _ rfl hown2 w4.heap.size rfl rfl (by omega) (by omega) (by omega) ?_); intro A5 c5 w5 hown5 hg5 hat5))
          have HF := FInv.app (zs := xs) (t := x) h2' hown2 hsep2 hb2 hown5 hg5 hat5
          clear h2 h2' hown2 hsep2 hown5 hg5 hat5 t2
          go_roundw
          case rel => exact ⟨k + 1, xs ++ [x], by omega, by go_num, HF, HG2.out, by simp; omega⟩
          case measure => simp [intOf]; omega
      · have g2 : decide ((40 : Int) < (x.length : Int)) = true := by simp; omega
        clear hS hown hsep hG
        go_wp2_with (go_at_call 7; refine (alive_any _).mono ?_; rintro e w3 ⟨rfl, hb3⟩)
        go_ret
        exact ⟨rfl, hb.trans (hb3.mono hsz)⟩
    · obtain rfl : k = l.length := by omega
      have hkd := HKD.out
      obtain ⟨k2, hk2⟩ : ∃ k2, (kd + 1).tmod 9 = k2 := ⟨_, rfl⟩
      have hk2r : 0 ≤ k2 ∧ k2 < 9 ∧ k2 ≠ kd := by rw [Int.tmod_eq_emod_of_nonneg (by omega)] at hk2; omega
      have hw1 : IntKind.i64.wrap (kd + 1) = kd + 1 := by rw [IntKind.wrap_i64]; omega
      have hw2 : IntKind.i64.wrap k2 = k2 := by rw [IntKind.wrap_i64]; omega
      have hk2w : (Lit.int .i64 k2).wf = true := by have := wf_nat k2.toNat (by omega); rwa [show ((k2.toNat : Nat) : Int) = k2 from by omega] at this
      have e1 : (⟨upd (fun _ => []) K xs, []⟩ : SSt).k kd.toNat = xs := by rw [HK.out]; show upd (fun _ => ([] : List Nm)) K xs K = xs; exact upd_same _ _ _
      have e2 : (⟨upd (fun _ => []) K xs, []⟩ : SSt).k k2.toNat = [] := by
        show upd (fun _ => ([] : List Nm)) K xs k2.toNat = []
        have := HK.out
        exact upd_other _ _ _ (by omega)
      have HL : Hid (Calls Try.prog 13 #[.pointer (some ⟨B + 1, 0, none⟩), .int .i64 kd] wr fun e w' => e = .returned (.int .i64 (xs.length : Int)) ∧ wr = w') := Lib.hid (by have := slen_any hS kd hk; unfold lenF at this; rw [if_pos hkd, e1] at this; exact this)
      have HN1 : Hid (Calls Try.prog 14 #[.pointer (some ⟨B + 1, 0, none⟩), .int .i64 kd, .string ⟨#[]⟩] wr fun e w' => e = .returned (.tuple #[.int .i64 0, .int .i64 4]) ∧ wr = w') := Lib.hid (find_plain hS kd hk [] hkd (by simp) (by simp) 0 4 (nat_empty wr))
      have HN2 : Hid (Calls Try.prog 14 #[.pointer (some ⟨B + 1, 0, none⟩), .int .i64 k2, .string ⟨#[]⟩] wr fun e w' => e = .returned (.tuple #[.int .i64 0, .int .i64 4]) ∧ wr = w') := Lib.hid (find_plain hS k2 hk2w [] ⟨hk2r.1, hk2r.2.1⟩ (by simp) (by simp) 0 4 (nat_empty wr))
      have HF1 : Hid (∀ (t : Nm) (j : Nat), t.head? = some 36 → t.length ≤ 40 → Sc.find xs t = some j → Calls Try.prog 14 #[.pointer (some ⟨B + 1, 0, none⟩), .int .i64 kd, .string ⟨t.toArray⟩] wr fun e w' => e = .returned (.tuple #[.int .i64 (j : Int), .int .i64 0]) ∧ wr = w') := Lib.hid (fun t j h1 h2 h3 => by
        have := find_dollar hS kd hk t hkd h1 (by omega)
        rw [e1, h3] at this
        exact this)
      have HF2 : Hid (∀ (t : Nm), t.head? = some 36 → t.length ≤ 40 → Calls Try.prog 14 #[.pointer (some ⟨B + 1, 0, none⟩), .int .i64 k2, .string ⟨t.toArray⟩] wr fun e w' => e = .returned (.tuple #[.int .i64 0, .int .i64 24]) ∧ wr = w') := Lib.hid (fun t h1 h2 => by
        have := find_dollar hS k2 hk2w t ⟨hk2r.1, hk2r.2.1⟩ h1 (by omega)
        rw [e2, Sc.find_nil] at this
        exact this)
      have HO := Lib.hid hown
      have HG := Lib.hid hG
      have HX : Hid (xs.length ≤ 40) := Lib.hid (by omega)
      clear hS hown hsep hG hk2r hk2w e1 e2 hkd hkl hxk
      go_wp2_with fail
      go_loopw [10] (fun i W => ∃ j : Nat, j ≤ xs.length ∧ i = .int .i64 j ∧ W = wr) (fun i _ => xs.length - (intOf i).toNat)
      case atStart => exact ⟨0, by omega, rfl, rfl⟩
      case round =>
        obtain ⟨j, hj, rfl, rfl⟩ := hrel
        have hx40 := HX.out
        by_cases hjl : j < xs.length
        · obtain ⟨g, cap', hv', _, _⟩ := HO.out.form (by omega)
          injection hv' with hA _ hcc
          subst hA hcc
          have hcell : wr.cell? ⟨g, j, none⟩ = some (str xs[j]) := by
            rw [HO.out.cellAt j (by omega)]
            simp [hjl]
          have hgx := HG.out j hjl
          obtain ⟨x, hx⟩ : ∃ x, xs[j] = x := ⟨_, rfl⟩
          rw [hx] at hcell hgx
          unfold str at hcell
          have j0 : (0 : Int) ≤ (j : Int) := Int.natCast_nonneg _
          have j1 : (j : Int) < (xs.length : Int) := by omega
          clear hx
          by_cases hx0 : x = []
          · subst hx0
            clear hgx
            go_wp2_with (first
              | (go_at_call 14; (with_reducible refine HN1.out.mono ?_); rintro e w4 ⟨rfl, rfl⟩)
              | (go_at_call 14; (with_reducible refine HN2.out.mono ?_); rintro e w4 ⟨rfl, rfl⟩))
            go_roundw
            case rel => exact ⟨j + 1, by omega, by go_num, by first | rfl | trivial⟩
            case measure => simp [intOf]; omega
          · have hnm := (hgx.2 hx0).1
            have hhd := name_head36 hnm
            have P1 := Lib.hid (HF1.out x j hhd hgx.1 (hgx.2 hx0).2)
            have P2 := Lib.hid (HF2.out x hhd hgx.1)
            have P3 : Hid (Calls Try.prog 15 #[.string ⟨x.toArray⟩] wr fun e w' => e = .returned (.bool true) ∧ wr = w') := Lib.hid (by have := rname_any x wr (by omega); rw [hnm] at this; exact this)
            have hb0 : List.isEmpty x = false := by cases x <;> simp at hx0 ⊢
            clear hgx hnm hhd hx0
            go_wp2_with (first
              | (go_at_call 14; (with_reducible refine P1.out.mono ?_); rintro e w4 ⟨rfl, rfl⟩)
              | (go_at_call 14; (with_reducible refine P2.out.mono ?_); rintro e w4 ⟨rfl, rfl⟩)
              | (go_at_call 15; refine P3.out.mono ?_; rintro e w4 ⟨rfl, rfl⟩))
            go_roundw
            case rel => exact ⟨j + 1, by omega, by go_num, by first | rfl | trivial⟩
            case measure => simp [intOf]; omega
        · go_wp2_with (first
            | (go_at_call 13; refine HL.out.mono ?_; rintro e w4 ⟨rfl, rfl⟩)
            | (go_at_call 7; refine (alive_any _).mono ?_; rintro e w5 ⟨rfl, hb5⟩))
          go_ret
          exact ⟨rfl, hb.trans (hb5.mono hsz)⟩

set_option maxHeartbeats 1000000 in
set_option maxRecDepth 100000 in
theorem scopeFinds_walk (kd : Int) (A : Option Addr) (c : Nat) (l : List Nm) (w : World) (hk : (Lit.int .i64 kd).wf = true) (hr : RdS w w.heap.size A l) :
    Calls Try.prog 4 #[.int .i64 kd, .slice A l.length c] w fun e w' => e = .returned (.bool true) ∧ Below w.heap.size w w' := by
  by_cases hl : l.length ≤ 40
  · by_cases hkd : 0 ≤ kd ∧ kd < 9
    · exact finds_good kd A c l w hk hr hl hkd
    · exact finds_bad kd A c l w hk hr hl hkd
  · have g1 : decide ((40 : Int) < (l.length : Int)) = true := by simp; omega
    go_enter Try.func4, Try.ntmps4
    go_wp2_with (go_at_call 7; refine (alive_any _).mono ?_; rintro e w1 ⟨rfl, hb⟩)
    go_ret
    exact ⟨rfl, hb⟩
end Go.Proofs.Ytbnddnoognoekaa
