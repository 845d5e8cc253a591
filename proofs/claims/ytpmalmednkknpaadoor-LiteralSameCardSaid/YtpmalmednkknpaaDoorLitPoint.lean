/-
  literal.point: an escape of the form u{..}.
-/
import Derived.Test.YtpmalmednkknpaaDoorLitDec
import Derived.Deep.CutBlock
set_option linter.unusedVariables false
namespace Go.Proofs.YtpmalmednkknpaaDoor
open Go.RowKit
attribute [local go_sem] ByteArray.extract_mk

/-- The call returns these bytes as a string, a number and an error; nothing that was there has changed. -/
def RetE (x : List UInt8 × Int × Int) (w : World) (e : Ending) (w' : World) : Prop := e = .returned (.tuple #[.string ⟨x.1.toArray⟩, .int .i64 x.2.1, .int .i64 x.2.2]) ∧ Below w.heap.size w w'
theorem retE_mk {x : List UInt8 × Int × Int} {w w' : World} {l : List UInt8} {a b : Int} (h : x = (l, a, b)) (hb : Below w.heap.size w w') : RetE x w (.returned (.tuple #[.string ⟨l.toArray⟩, .int .i64 a, .int .i64 b])) w' := by subst h; exact ⟨rfl, hb⟩
theorem i64_or (a b : Nat) (ha : a < 9223372036854775808) (hb : b < 9223372036854775808) : bits .or .i64 (a : Int) (b : Int) = ((a ||| b : Nat) : Int) :=
  (bits_nat .i64 63 (by decide) (fun n h0 h1 => by rw [IntKind.wrap_i64]; omega) a b ha hb).2
theorem or4 (N : Nat) (d : Int) (hN : N < 16777216) (h0 : 0 ≤ d) (h1 : d < 16) : bits .or .i64 ((N : Int) * 16) d = (N : Int) * 16 + d := by
  obtain ⟨m, rfl⟩ := Int.eq_ofNat_of_zero_le h0
  have e : (N : Int) * 16 = ((N * 16 : Nat) : Int) := by omega
  rw [e, i64_or _ _ (by omega) (by omega), Ltr.or4_nat N m (by omega)]
  omega

set_option maxHeartbeats 1000000 in
set_option maxRecDepth 100000 in
theorem point_no (r : List UInt8) (w : World) (hl : r.length ≤ 1000000) (h : r.head? ≠ some 123) :
    Calls Tryd.prog 33 #[.string ⟨(117 :: r).toArray⟩] w (RetE ([], 0, 4) w) := by
  cases r with
  | nil =>
    clear h hl
    go_enter Tryd.func33, Tryd.ntmps33
    go_wp2
    go_ret3
    exact retE_mk rfl (Below.refl _ _)
  | cons c r =>
    have hc : c ≠ 123 := by simpa using h
    have s1 := lcne' c 123 (by omega) hc
    simp only [Int.cast_ofNat_Int] at s1
    have hb0 := lba_get (117 :: c :: r) 1 (by simp) c rfl
    clear h hc
    go_enter Tryd.func33, Tryd.ntmps33
    go_wp2
    go_ret3
    exact retE_mk rfl (Below.refl _ _)

set_option maxHeartbeats 2000000 in
set_option maxRecDepth 100000 in
theorem point_yes (t : List UInt8) (w : World) (hl : t.length ≤ 1000000) :
    Calls Tryd.prog 33 #[.string ⟨(117 :: 123 :: t).toArray⟩] w (RetE (Ltr.pointF t) w) := by
  have hb1 := lba_get (117 :: 123 :: t) 1 (by simp) 123 rfl
  have HH := Lib.hid (Ltr.hrun_le t)
  obtain ⟨m, hm⟩ : ∃ m, (Ltr.hrun t).length = m := ⟨_, rfl⟩
  have HM := Lib.hid hm
  have HF : Hid (∀ k, k < m → ∃ h1 : k < t.length, 0 ≤ Ltr.dig t[k]) := Lib.hid (fun k hk => by obtain ⟨h1, _, h2⟩ := Ltr.hrun_at t k (by omega); exact ⟨h1, h2⟩)
  clear hm
  go_enter Tryd.func33, Tryd.ntmps33
  go_wp2_with fail
  go_loopw [5, 6] (fun n i wr => ∃ k : Nat, k ≤ m ∧ k ≤ 6 ∧ i = .int .i64 ((k : Int) + 2) ∧ n = .int .i64 ((Ltr.hval (t.take k) : Nat) : Int) ∧ wr = w) (fun _ i _ => 10 - (intOf i).toNat)
  case atStart => exact ⟨0, by omega, by omega, rfl, rfl, rfl⟩
  case round =>
    obtain ⟨k, hk, hk6, rfl, rfl, rfl⟩ := hrel
    clear hb1
    have hN := Ltr.hval_lt (t.take k)
    have hN6 : Ltr.hval (t.take k) < 16777216 := Nat.lt_of_lt_of_le hN (Nat.le_trans (Nat.pow_le_pow_right (by omega) (by simp; omega : (t.take k).length ≤ 6)) (by omega))
    obtain ⟨N, hNe⟩ : ∃ N, Ltr.hval (t.take k) = N := ⟨_, rfl⟩
    rw [hNe] at hN6 ⊢
    have HN := Lib.hid hNe
    clear hN hNe
    by_cases hkm : k < m
    · obtain ⟨hkl, hd⟩ := HF.out k hkm
      have hbk := lba_get (117 :: 123 :: t) (k + 2) (by simp; omega) t[k] (by simp)
      have HT := Lib.hid (List.take_succ_eq_append_getElem hkl)
      have hdl := Ltr.dig_le t[k]
      obtain ⟨c, hc⟩ : ∃ c, t[k] = c := ⟨_, rfl⟩
      rw [hc] at hbk HT hd hdl
      have HD : Hid (∀ W : World, Calls Tryd.prog 34 #[.int .u8 (c.toNat : Int)] W fun e w' => e = .returned (.int .i64 (Ltr.dig c)) ∧ W = w') := Lib.hid (fun W => ldigit_any c W)
      have HV := Lib.hid (Ltr.hval_snoc (t.take k) c)
      generalize Ltr.dig c = d at *
      have hor := or4 N d hN6 hd (by omega)
      have g0 : decide (0 ≤ d) = true := by simpa using hd
      have i0 : (0 : Int) ≤ (k : Int) := by omega
      have i1 : (k : Int) + 2 < (t.length : Int) + 2 := by omega
      clear hc
      by_cases h6 : k < 6
      · have g6 : decide ((8 : Int) < (k : Int) + 2 + 1) = false := by simp; omega
        go_wp2_with (go_at_call 34; refine (HD.out _).mono ?_; rintro e w1 ⟨rfl, rfl⟩)
        go_roundw
        case rel => exact ⟨k + 1, by omega, by omega, by go_num, by rw [HT.out, HV.out, HN.out]; simp; omega, trivial⟩
        case measure => simp [intOf]; omega
      · have hk6' : k = 6 := by omega
        subst hk6'
        have HP := Lib.hid (Ltr.pointF_bad t (by rw [HM.out]; omega))
        go_wp2_with (go_at_call 34; refine (HD.out _).mono ?_; rintro e w1 ⟨rfl, rfl⟩)
        go_ret3
        exact retE_mk HP.out (Below.refl _ _)
    · obtain rfl : k = m := by omega
      clear hkm
      have i0 : (0 : Int) ≤ (k : Int) := by omega
      have hkt : k ≤ t.length := by have := HH.out; have := HM.out; omega
      by_cases hlt : k < t.length
      · have hbk := lba_get (117 :: 123 :: t) (k + 2) (by simp; omega) t[k] (by simp)
        have hdn : Ltr.dig t[k] < 0 := by have := Ltr.hrun_end t (by rw [HM.out]; exact hlt); simpa [HM.out] using this
        have HX : Hid ((t.drop k).head? = some t[k]) := Lib.hid (by rw [List.head?_drop, List.getElem?_eq_getElem hlt])
        obtain ⟨c, hc⟩ : ∃ c, t[k] = c := ⟨_, rfl⟩
        rw [hc] at hbk hdn HX
        have HD : Hid (∀ W : World, Calls Tryd.prog 34 #[.int .u8 (c.toNat : Int)] W fun e w' => e = .returned (.int .i64 (Ltr.dig c)) ∧ W = w') := Lib.hid (fun W => ldigit_any c W)
        generalize Ltr.dig c = d at *
        have g0 : decide (0 ≤ d) = false := by simpa using hdn
        have i1 : (k : Int) + 2 < (t.length : Int) + 1 + 1 := by omega
        clear hc
        by_cases hk0 : k = 0
        · subst hk0
          have HP := Lib.hid (Ltr.pointF_bad t (by rw [HM.out]; omega))
          go_wp2_with (go_at_call 34; refine (HD.out _).mono ?_; rintro e w1 ⟨rfl, rfl⟩)
          go_ret3
          exact retE_mk HP.out (Below.refl _ _)
        · have e2 : ((k : Int) + 2 == 2) = false := by simp; omega
          have e3 : ((k : Int) == 0) = false := by simp; omega
          by_cases h125 : c = 125
          · have s1 : ((c.toNat : Int) != 125) = false := by subst h125; rfl
            rw [h125] at HX
            clear h125
            have hP : Ltr.pointF t = if Lib.validRune (N : Int) then (Lib.encodeRune (N : Int), (k : Int) + 3, 0) else ([], 0, 9) := by
              have := Ltr.pointF_ok t (by rw [HM.out]; exact hk0) (by rw [HM.out]; exact hk6) (by rw [HM.out]; exact HX.out)
              rw [HM.out, HN.out] at this
              exact this
            have hw1 : IntKind.i32.wrap (N : Int) = (N : Int) := by rw [IntKind.wrap_i32]; omega
            have hPut := put_one (N : Int) (by omega) (by omega)
            cases hval : Lib.validRune (N : Int) with
            | false =>
              rw [hval] at hP
              have HP := Lib.hid hP
              unfold RetPut at hPut
              rw [hval] at hPut
              have HU := Lib.hid hPut
              clear hP hPut hval
              go_wp2_with (first
                | (go_at_call 34; refine (HD.out _).mono ?_; rintro e w1 ⟨rfl, rfl⟩)
                | (go_at_call 41; refine (HU.out _ _ _ (by simp) (by simp)).mono ?_; rintro e w2 ⟨rfl, hb2⟩))
              go_ret3
              exact retE_mk (HP.out.trans (if_neg (by decide))) (((Below.refl _ _).alloc (Nat.le_refl _) _).trans (hb2.mono (by simp)))
            | true =>
              have hle := encodeRune_le (N : Int)
              have hdec := decode_enc (N : Int) hval
              rw [hval] at hP
              rw [if_pos rfl] at hP
              unfold RetPut at hPut
              rw [hval] at hPut
              obtain ⟨E, hE⟩ : ∃ E, Lib.encodeRune (N : Int) = E := ⟨_, rfl⟩
              rw [hE] at hle hdec hP hPut
              have HP := Lib.hid hP
              have HU : Hid (∀ (ad : Addr) (c : Nat) (w : World), w.cell? ad = some (.int .i32 (N : Int)) → ad.block < w.heap.size → Calls Tryd.prog 41 #[.slice (some ad) 1 c] w fun e w' => e = .returned (.tuple #[.string ⟨E.toArray⟩, .bool true]) ∧ Below w.heap.size w w') := Lib.hid hPut
              have hNn : ((N : Int)).toNat = N := by omega
              rw [hNn] at hdec
              have HDE := Lib.hid hdec
              have HEE := Lib.hid hE
              clear hP hPut hval hdec hE hNn
              go_wp2_with (first
                | (go_at_call 34; refine (HD.out _).mono ?_; rintro e w1 ⟨rfl, rfl⟩)
                | (go_at_call 41; refine (HU.out _ _ _ (by simp) (by simp)).mono ?_; rintro e w2 ⟨rfl, hb2⟩))
              have hit0 := World.iter_heap w2 ⟨E.toArray⟩ 0
              have hbel0 : Below wr.heap.size wr (w2.iter ⟨E.toArray⟩ 0) := (((Below.refl _ _).alloc (Nat.le_refl _) _).trans (hb2.mono (by simp))).alloc (by have := hb2.size; simp at this; omega) _
              have hI : wr.heap.size < w2.heap.size := by have := hb2.size; simp at this; omega
              generalize w2.heap.size = I at hit0 hI ⊢
              generalize w2.iter ⟨E.toArray⟩ 0 = w3 at hit0 hbel0 ⊢
              have H0 := Lib.hid (And.intro hit0 hbel0)
              clear hit0 hbel0 hb2
              obtain ⟨wo, rfl⟩ : ∃ wo : World, wo = wr := ⟨_, rfl⟩
              go_loopw [9] (fun v x => (v = .slice none 0 0 ∧ x.heap[I]? = some (.stringIter ⟨E.toArray⟩ 0) ∧ Below wo.heap.size wo x) ∨ (∃ A c m, v = .slice A m c ∧ E.length = m ∧ x.ownsRow (I + 1) 5 1 v m (rb E) ∧ x.heap[I]? = some (.stringIter ⟨E.toArray⟩ E.length) ∧ Below wo.heap.size wo x)) (fun _ x => E.length + 1 - x.iterPos I)
              case atStart => exact .inl ⟨rfl, H0.out.1, H0.out.2⟩
              case round =>
                clear H0
                rcases hrel with ⟨rfl, hit, hbel⟩ | ⟨A, c2, m, rfl, hm, hown, hit, hbel⟩
                · have hlt : I < wr.heap.size := (Array.getElem?_eq_some_iff.1 hit).1
                  have hnx : ∀ ty, (Instr.next (.pointer (some ⟨I, 0, none⟩)) true ty).run Tryd.prog wr = .ok (.tuple #[.bool true, .int .i64 0, .int .i32 (N : Int)]) (wr.iterAt I ⟨E.toArray⟩ E.length) := fun ty => by
                    have := Lib.run_next_any_at (P := Tryd.prog) wr I ⟨E.toArray⟩ 0 ty hit (by show 0 < E.toArray.size; simp; omega)
                    rw [HDE.out] at this
                    simpa using this
                  have hit2 := Lib.iterAt_heap wr I ⟨E.toArray⟩ 0 E.length hit
                  have hbel2 := Lib.below_iterAt hbel (k := I) (by omega) ⟨E.toArray⟩ E.length
                  have hsz2 : I < (wr.iterAt I ⟨E.toArray⟩ E.length).heap.size := by rw [Lib.iterAt_size]; omega
                  have hpos : wr.iterPos I = 0 := by simp [World.iterPos, hit]
                  have HPOS := Lib.hid hpos
                  generalize wr.iterAt I ⟨E.toArray⟩ E.length = x1 at hnx hit2 hbel2 hsz2
                  have hnil : x1.ownsRow (I + 1) 5 1 (.slice none 0 0) 0 (rb []) := World.ownsRow_nil _ _ _ _
                  have hAR := appendRune_at (I + 1) _ 0 [] rfl (N : Int) (by omega) (by omega) x1 hnil (by omega) (by omega)
                  rw [HEE.out, List.nil_append] at hAR
                  have HAR := Lib.hid hAR
                  have HNIL := Lib.hid hnil
                  clear hit hbel hAR hpos hnil
                  go_wp2_with (go_at_call 42; refine HAR.out.mono ?_; rintro e w4 ⟨A, c2, m, rfl, hm, hown, hg⟩)
                  have hit4 : w4.heap[I]? = some (.stringIter ⟨E.toArray⟩ E.length) := (hg.block I hsz2 (by simp [Value.ownBlock])).trans hit2
                  have hbel4 := hbel2.trans ((below_own HNIL.out hg hsz2).mono (by omega))
                  have HM := Lib.hid hm
                  clear hm hg hnx
                  go_roundw
                  case rel => exact .inr ⟨A, c2, m, rfl, HM.out, hown, hit4, hbel4⟩
                  case measure => rw [HPOS.out]; simp [World.iterPos, hit4]; omega
                · have hnx : ∀ ty, (Instr.next (.pointer (some ⟨I, 0, none⟩)) true ty).run Tryd.prog wr = .ok (.tuple #[.bool false]) wr := fun ty => Lib.run_next_end_at wr I ⟨E.toArray⟩ E.length ty hit (by show ¬ E.length < E.toArray.size; simp)
                  obtain ⟨hrd, hlen⟩ := own_rd hown
                  have hcv := str_n hrd hlen c2
                  have HM := Lib.hid hm
                  clear hm hlen hit
                  go_wp2
                  go_ret3
                  exact retE_mk HP.out hbel
          · have s1 := lcne' c 125 (by omega) h125
            simp only [Int.cast_ofNat_Int] at s1
            have HP := Lib.hid (Ltr.pointF_bad t (by rw [HM.out]; exact .inr (.inr (by rw [HX.out]; simpa using h125))))
            clear h125
            go_wp2_with (go_at_call 34; refine (HD.out _).mono ?_; rintro e w1 ⟨rfl, rfl⟩)
            go_ret3
            exact retE_mk HP.out (Below.refl _ _)
      · have hge : (t.length : Int) + 1 + 1 ≤ (k : Int) + 2 := by omega
        have HP := Lib.hid (Ltr.pointF_bad t (by rw [HM.out]; exact .inr (.inr (by rw [List.drop_eq_nil_of_le (by omega)]; simp))))
        go_wp2_with fail
        all_goals
          go_ret3
          exact retE_mk HP.out (Below.refl _ _)
theorem point_any (r : List UInt8) (w : World) (hl : r.length ≤ 1000000) :
    Calls Tryd.prog 33 #[.string ⟨(117 :: r).toArray⟩] w (RetE (Ltr.pointS r) w) := by
  by_cases h : r.head? = some 123
  · cases r with
    | nil => cases h
    | cons c t =>
      obtain rfl : c = 123 := by simpa using h
      exact point_yes t w (by simp at hl; omega)
  · have : Ltr.pointS r = ([], 0, 4) := by
      unfold Ltr.pointS
      split
      · exact absurd rfl h
      · rfl
    rw [this]
    exact point_no r w hl h
end Go.Proofs.YtpmalmednkknpaaDoor
