/-
  The walk of the law LebLonger.
-/
import Derived.Test.YtceepkgpdhdhnaaLebAlive
import Derived.Test.YtceepkgpdhdhnaaLebPad
set_option linter.unusedVariables false
namespace Go.Proofs.Ytceepkgpdhdhnaa
open Go.RowKit

theorem wrap64_in (n : Int) : InI64 (wrap64 n) := by unfold InI64 wrap64; omega

set_option maxHeartbeats 1000000 in
set_option maxRecDepth 100000 in
theorem lebLonger_walk (n mo : Nat) (w : World) (hn : InU64 n) (hmo : mo < 256) :
    Calls Try.prog 7 #[.int .u64 n, .int .u8 mo] w fun e w' => e = .returned (.bool true) ∧ Below w.heap.size w w' := by
  have own0 := fun W : World => World.ownsRow_lit (base := W.heap.size) (e := 5) (size := 1) W #[] 0 (Nat.le_refl _) (Nat.zero_le _) rfl
  have ow := own0 w
  obtain ⟨s, hs⟩ : ∃ s, wrap64 (n : Int) = s := ⟨_, rfl⟩
  have hsI : InI64 s := by rw [← hs]; exact wrap64_in _
  have h10 := Leb.putU_len10 n (by unfold InU64 at hn; omega)
  have h10' := Leb.putS_len10 s hsI.1 hsI.2
  have hp := Leb.putU_pos n
  have hp' := Leb.putS_pos s
  have g1 : decide (((Leb.putU n).length : Int) < 1) = false := by simp; omega
  have g2 : decide (((Leb.putS s).length : Int) < 1) = false := by simp; omega
  obtain ⟨f, hf⟩ : ∃ f : UInt8, f = if s < 0 then 127 else 0 := ⟨_, rfl⟩
  have hf128 : f.toNat < 128 := by rw [hf]; split <;> decide
  have Hf := Lib.hid hf
  have hcase : (decide (s < 0) = true ∧ f = 127) ∨ (decide (s < 0) = false ∧ f = 0) := by
    by_cases h : s < 0
    · exact .inl ⟨by simpa using h, by rw [hf, if_pos h]⟩
    · exact .inr ⟨by simpa using h, by rw [hf, if_neg h]⟩
  clear hf
  rcases hcase with ⟨g3, hf⟩ | ⟨g3, hf⟩
  all_goals
    have HF := Lib.hid hf; clear hf
    go_enter Try.func7, Try.ntmps7
    go_wp2_with (first
      | (go_at_call 10; refine (putU_any none 0 [] n _ RdB.nil_ (by simp) hn).mono ?_; rintro e w1 ⟨A1, c1, rfl, hown1, hc1, hb1⟩; rw [List.nil_append] at hown1 hc1 ⊢; have o1 := own_below ow hb1 (Nat.le_refl _); have hs1 := hb1.size; simp at hs1)
      | (at_builtin; refine app_bytes _ rfl (.tmp 16) (.tmp 18) rfl w.heap.size _ [] rfl o1 w1.heap.size A1 c1 (Leb.putU n) rfl (RdB.of_own hown1) (by simp; omega) (by omega) ?_; intro A2 c2 w2 hown2 hg2 hat2; rw [List.nil_append] at hown2; have o2 := own0 w2; have hbb := below_own o1 hg2 (by omega); have hs2 := hbb.size)
      | (go_at_call 12; refine (putS_any none 0 [] s _ RdB.nil_ (by simp) hsI).mono ?_; rintro e w3 ⟨A3, c3, rfl, hown3, hc3, hb3⟩; rw [List.nil_append] at hown3 hc3 ⊢; have o3 := own_below o2 hb3 (Nat.le_refl _); have hs3 := hb3.size; simp at hs3)
      | (at_builtin; refine app_bytes _ rfl (.tmp 20) (.tmp 23) rfl w2.heap.size _ [] rfl o3 w3.heap.size A3 c3 (Leb.putS s) rfl (RdB.of_own hown3) (by simp; omega) (by omega) ?_; intro A4 c4 w4 hown4 hg4 hat4; rw [List.nil_append] at hown4; have hbb4 := below_own o3 hg4 (by omega); have hs4 := hbb4.size))
    obtain ⟨g, hA, hgb, hgl, _⟩ := own_at hown2 hp
    subst hA
    obtain ⟨g', hA', hgb', hgl', _⟩ := own_at hown4 hp'
    subst hA'
    obtain ⟨m0, hm0⟩ : ∃ m0, (Leb.putU n).length = m0 + 1 := ⟨(Leb.putU n).length - 1, by omega⟩
    obtain ⟨m1, hm1⟩ : ∃ m1, (Leb.putS s).length = m1 + 1 := ⟨(Leb.putS s).length - 1, by omega⟩
    have b12 : Below w.heap.size w w2 := (((Below.refl _ _).alloc (Nat.le_refl _) _).trans (hb1.mono (by simp))).trans hbb
    have b24 : Below w2.heap.size w2 w4 := (((Below.refl _ _).alloc (Nat.le_refl _) _).trans (hb3.mono (by simp))).trans hbb4
    have T0 := TwoRows.made hm0 hown2 b12 b24 hown4
    have Hm0 := Lib.hid hm0
    have Hm1 := Lib.hid hm1
    have hm0' : m0 ≤ 9 := by omega
    have hm1' : m1 ≤ 9 := by omega
    have Hs := Lib.hid hs
    clear hs
    clear hown1 hc1 hb1 o1 hs1 hown2 hg2 hat2 o2 hbb hs2 hown3 hc3 hb3 o3 hs3 hown4 hg4 hat4 hbb4 hs4 b12 b24 hm0 hm1 hgb hgl hgb' hgl' ow own0 hp hp' h10 h10' g1 g2
    go_loopw [5, 8] (fun a i wr => ∃ (k m g ca : Nat) (la : List UInt8), i = .int .i64 k ∧ k ≤ 10 ∧ a = .slice (some ⟨g, 0, none⟩) (m + 1) ca ∧ m ≤ 9 ∧ Leb.Enc la n ∧ TwoRows w g ca m la (.slice (some ⟨g', 0, none⟩) (Leb.putS s).length c4) (Leb.putS s) wr) (fun _ i _ => 10 - (intOf i).toNat)
    case atStart => exact ⟨0, m0, g, c2, Leb.putU n, rfl, by omega, by rw [Hm0.out], hm0', Leb.putU_enc n, T0⟩
    case round =>
      clear T0
      obtain ⟨k, m, ga, ca, la, rfl, hk, rfl, hm9, hE, hT⟩ := hrel
      obtain ⟨hcell, hfroz, hsz⟩ := hT.facts
      obtain ⟨y, hy⟩ : ∃ y, la.getD m 0 = y := ⟨_, rfl⟩
      rw [hy] at hcell
      have Hy := Lib.hid hy
      clear hy
      by_cases hstep : k < mo % 10 ∧ m + 1 < 10
      · obtain ⟨hk1, hm2⟩ := hstep
        have t1 : decide ((k : Int) < (mo : Int) % 10) = true := by simp; omega
        have t2 : decide ((m : Int) + 1 < 10) = true := by simp; omega
        have ho := Leb.or128 (y.toNat : Int) (by omega) (by have := y.toNat_lt; omega)
        have hst := hT.stored ((y.toNat : Int) % 128 + 128) (by rw [Hy.out])
        go_wp2_with (at_builtin; (refine app_byte_n _ _ rfl (.tmp 56) (.tmp 57) rfl w.heap.size _ (m + 1) _ (by simp [hT.1]) rfl hst wr.heap.size (by simp [World.setCell]) rfl (by omega) (by omega) (by omega) hsz ?_); intro A5 c5 w5 hown5 hg5 hat5)
        obtain ⟨g5, hA5, hT5⟩ := hT.padded (f := 0) hown5 hg5 hat5
        subst hA5
        clear hown5 hg5 hat5 hst
        go_roundw
        case rel => exact ⟨k + 1, m + 1, g5, c5, _, by go_num, by omega, rfl, by omega, (by simpa using Leb.pad_enc hE hT.1 (f := 0) (by decide)), hT5⟩
        case measure => simp [intOf]; omega
      · have hexit : decide ((k : Int) < (mo : Int) % 10) = false ∨ (decide ((k : Int) < (mo : Int) % 10) = true ∧ decide ((m : Int) + 1 < 10) = false) := by
          by_cases h : k < mo % 10
          · exact .inr ⟨by simp; omega, by simp; omega⟩
          · exact .inl (by simp; omega)
        clear hstep hcell hfroz hsz Hy
        have hT2 := (show TwoRows w ga ca m la (.slice (some ⟨g', 0, none⟩) (m1 + 1) c4) (Leb.putS s) wr by rw [← Hm1.out]; exact hT).swap Hm1.out
        have hlaL := hT.1
        have HlaL := Lib.hid hlaL
        clear hT hlaL
        obtain ⟨mA, hmA⟩ : ∃ mA, mA = m := ⟨_, rfl⟩
        subst hmA
        rcases hexit with t1 | ⟨t1, t2⟩
        all_goals
          go_wp2_with fail
          go_loopw [6, 9] (fun b i wr => ∃ (k m g cb v : Nat) (lb : List UInt8), i = .int .i64 k ∧ k ≤ 10 ∧ b = .slice (some ⟨g, 0, none⟩) (m + 1) cb ∧ m ≤ 9 ∧ Leb.Enc lb v ∧ Hid (Leb.sOf lb v = s) ∧ TwoRows w g cb m lb (.slice (some ⟨ga, 0, none⟩) (mA + 1) ca) la wr) (fun _ i _ => 10 - (intOf i).toNat)
          case atStart =>
            obtain ⟨v, hv1, hv2⟩ := Leb.putS_enc' s
            exact ⟨0, m1, g', c4, v, Leb.putS s, rfl, by omega, by rw [Hm1.out], hm1', hv1, hv2, hT2⟩
          case round =>
            clear hT2 t1
            try clear t2
            obtain ⟨k, m, gb, cb, v, lb, rfl, hk, rfl, hm9b, hEb, hsOf, hT⟩ := hrel
            obtain ⟨hcell, hfroz, hsz⟩ := hT.facts
            obtain ⟨y, hy⟩ : ∃ y, lb.getD m 0 = y := ⟨_, rfl⟩
            rw [hy] at hcell
            have Hy := Lib.hid hy
            clear hy
            by_cases hstep : k < mo % 10 ∧ m + 1 < 10
            · obtain ⟨hk1, hm2⟩ := hstep
              have t1 : decide ((k : Int) < (mo : Int) % 10) = true := by simp; omega
              have t2 : decide ((m : Int) + 1 < 10) = true := by simp; omega
              have ho := Leb.or128 (y.toNat : Int) (by omega) (by have := y.toNat_lt; omega)
              have hst := hT.stored ((y.toNat : Int) % 128 + 128) (by rw [Hy.out])
              go_wp2_with (at_builtin; refine app_byte_n _ _ rfl (.tmp 79) (.tmp 81) rfl w.heap.size _ (m + 1) _ (by simp [hT.1]) rfl hst wr.heap.size (by simp [World.setCell]) rfl (by omega) (by omega) (by omega) hsz ?_; intro A5 c5 w5 hown5 hg5 hat5)
              obtain ⟨g5, hA5, hT5⟩ := hT.padded (f := f) (by rw [HF.out]; exact hown5) hg5 hat5
              subst hA5
              clear hown5 hg5 hat5 hst
              go_roundw
              case rel => exact ⟨k + 1, m + 1, g5, c5, _, _, by go_num, by omega, rfl, by omega, Leb.pad_enc hEb hT.1 hf128, by rw [Leb.pad_sOf hEb hT.1 (by rw [hsOf.out]; exact Hf.out)]; exact hsOf.out, hT5⟩
              case measure => simp [intOf]; omega
            · have hexit : decide ((k : Int) < (mo : Int) % 10) = false ∨ (decide ((k : Int) < (mo : Int) % 10) = true ∧ decide ((m : Int) + 1 < 10) = false) := by
                by_cases h : k < mo % 10
                · exact .inr ⟨by simp; omega, by simp; omega⟩
                · exact .inl (by simp; omega)
              clear hstep hcell hfroz hsz Hy
              have hRb := hT.readA
              have hRa := (hT.swap HlaL.out).readA
              have HU := Lib.hid (Leb.longer_u hE (by rw [HlaL.out]; omega) (by unfold InU64 at hn; omega))
              have HS := Lib.hid (Leb.longer_s hEb hsOf.out (by rw [hT.1]; omega) hsI.1 hsI.2)
              have hbw := hT.2.2.2.2
              obtain ⟨r1, r2⟩ := hRa
              obtain ⟨r3, r4⟩ := hRb
              have R2 := Lib.hid r2
              have R4 := Lib.hid r4
              clear hT r2 r4 hsOf
              have hs := Hs.out
              rcases hexit with t1 | ⟨t1, t2⟩
              all_goals
                go_wp2_with (first
                  | (go_at_call 20; (with_reducible refine (u_len _ ca la 64 _ _ R2.out r1 (by rw [R2.out]; omega)).mono ?_); rintro e w7 ⟨rfl, rfl⟩; rw [HU.out, R2.out])
                  | (go_at_call 19; (with_reducible refine (s_len _ cb lb 64 _ _ R4.out r3 (by rw [R4.out]; omega)).mono ?_); rintro e w7 ⟨rfl, rfl⟩; rw [HS.out, R4.out])
                  | (go_at_call 9; refine (alive_any _).mono ?_; rintro e w8 ⟨rfl, hb8⟩))
                go_ret
                exact ⟨rfl, hbw.trans (hb8.mono hbw.size)⟩
end Go.Proofs.Ytceepkgpdhdhnaa
