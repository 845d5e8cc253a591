/-
  The walk of the law TreeDeep.
-/
import Derived.Test.YtnjhbhbohnjckaaTreeAlive
import Derived.Test.YtnjhbhbohnjckaaTreeDeepP
set_option linter.unusedVariables false
set_option linter.unusedSimpArgs false
namespace Go.Proofs.Ytnjhbhbohnjckaa
open Go.RowKit
open Tree (Tr)

theorem par_open (k : Nat) : (⟨(Tree.par k 0).toArray⟩ : ByteArray) ++ ⟨#[40]⟩ = ⟨(Tree.par (k + 1) 0).toArray⟩ := by
  apply ByteArray.ext
  rw [ByteArray.data_append]
  apply Array.ext'
  simp [Tree.par, List.replicate_succ']
theorem par_close (k m : Nat) : (⟨(Tree.par k m).toArray⟩ : ByteArray) ++ ⟨#[41]⟩ = ⟨(Tree.par k (m + 1)).toArray⟩ := by
  apply ByteArray.ext
  rw [ByteArray.data_append]
  apply Array.ext'
  simp [Tree.par, List.replicate_succ']
set_option maxHeartbeats 4000000 in
set_option maxRecDepth 100000 in
theorem treeDeep_walk (n left : Int) (w : World) (hn : 0 ≤ n ∧ n ≤ 255) (hl : 0 ≤ left ∧ left ≤ 255) :
    Calls Try.prog 4 #[.int .u8 n, .int .u8 left] w fun e w' => e = .returned (.bool true) ∧ Below w.heap.size w w' := by
  obtain ⟨k, rfl⟩ := Int.eq_ofNat_of_zero_le hn.1
  obtain ⟨h, hh⟩ : ∃ h : Nat, left % 3 = (h : Int) := Int.eq_ofNat_of_zero_le (by omega)
  have hk : k ≤ 255 := by omega
  have hl3 : h < 3 := by omega
  have hk0 : (0 : Int) ≤ (k : Int) := Int.natCast_nonneg _
  have hk1 : (k : Int) ≤ 255 := by omega
  have ht : left.tmod 3 = (h : Int) := by rw [Int.tmod_eq_emod_of_nonneg hl.1]; exact hh
  have HT := Lib.hid ht
  have HH := Lib.hid hh
  have hl0 := hl.1
  have hl255 := hl.2
  clear hn hl hh ht
  go_enter Try.func4, Try.ntmps4
  go_wp2
  rw [HH.out]
  clear HH HT hl0 hl255
  go_loop [7, 8] (fun s i => ∃ j : Nat, j ≤ k ∧ i = .int .i64 (j : Int) ∧ s = .string ⟨(Tree.par j 0).toArray⟩) (fun _ i => k - (intOf i).toNat)
  case atStart => exact ⟨0, Nat.zero_le _, rfl, rfl⟩
  case round =>
    obtain ⟨j, hj, rfl, rfl⟩ := hrel
    by_cases hjk : j < k
    · have hs := Lib.hid (par_open j)
      have hz : (⟨(Tree.par j 0).toArray⟩ : ByteArray).size = j := by simp [ByteArray.size, Tree.par]
      go_wp2
      go_round
      case rel => exact ⟨j + 1, by omega, by go_num, by rw [← hs.out]⟩
      case measure => simp [intOf]; omega
    · obtain rfl : j = k := by omega
      clear hj hjk
      go_wp2
      have hw9 : (0 : Int) ≤ (h : Int) := Int.natCast_nonneg _
      have hh3 : (h : Int) ≤ 2 := by omega
      go_loop [7, 9] (fun s i => ∃ q : Nat, q ≤ j - h ∧ i = .int .i64 (q : Int) ∧ s = .string ⟨(Tree.par j q).toArray⟩) (fun _ i => (j - h) - (intOf i).toNat)
      case atStart => exact ⟨0, Nat.zero_le _, rfl, rfl⟩
      case round =>
        obtain ⟨q, hq, rfl, rfl⟩ := hrel
        by_cases hqk : q < j - h
        · have hs := Lib.hid (par_close j q)
          have hz : (⟨(Tree.par j q).toArray⟩ : ByteArray).size = j + q := by simp [ByteArray.size, Tree.par]
          have g : decide ((q : Int) < (j : Int) - (h : Int)) = true := by simp; omega
          go_wp2
          go_round
          case rel => exact ⟨q + 1, by omega, by go_num, by rw [← hs.out]⟩
          case measure => simp [intOf]; omega
        · obtain rfl : q = j - h := by omega
          have g : decide (((j - h : Nat) : Int) < (j : Int) - (h : Int)) = false := by simp; omega
          have hlen : (Tree.par j (j - h)).length ≤ 1000 := by rw [Tree.par_len]; omega
          clear hq hqk
          by_cases h200 : 200 < j
          · have hp := Lib.hid (Tree.parse_long (m := j - h) h200 (by omega))
            have e200 : decide ((200 : Int) < (j : Int)) = true := by simp; omega
            clear h200
            go_wp2_with fail
            refine (parse_at _ _ _ hp.out hlen).mono ?_
            rintro e w1 ⟨A1, c1, rfl, hl1, hc1, hm1, hb1⟩
            dsimp only [List.length_nil]
            clear hl1 hc1 hp
            go_wp2_with (go_at_call 8; (with_reducible refine (alive_any _).mono ?_); rintro e w5 ⟨rfl, hb7⟩)
            go_ret
            exact ⟨rfl, hb1.trans (hb7.mono hb1.size)⟩
          have e200 : decide ((200 : Int) < (j : Int)) = false := by simp; omega
          by_cases hc : 0 < h ∧ 0 < j
          · have hp := Lib.hid (Tree.parse_open (k := j) (m := j - h) (by omega) (by omega))
            have e1 : decide ((0 : Int) < (h : Int)) = true := by simp; omega
            have e2 : decide ((0 : Int) < (j : Int)) = true := by simp; omega
            have e1n : decide (0 < h) = true := by simp; omega
            have e2n : decide (0 < j) = true := by simp; omega
            obtain ⟨at_, hat⟩ : ∃ a : Nat, j - (j - h) - 1 = a := ⟨_, rfl⟩
            have hmin : (min (h : Int) (j : Int)) - 1 = (at_ : Int) := by omega
            have hmin2 : (0 : Int) ≤ min (h : Int) (j : Int) := by omega
            have hmin3 : min (h : Int) (j : Int) ≤ 255 := by omega
            rw [hat] at hp
            have HMN := Lib.hid hmin
            clear hc h200 hat hmin
            go_wp2_with fail
            refine (parse_at _ _ _ hp.out hlen).mono ?_
            rintro e w1 ⟨A1, c1, rfl, hl1, hc1, hm1, hb1⟩
            dsimp only [List.length_nil]
            clear hl1 hc1 hp
            have hme : ((at_ : Int) == min (h : Int) (j : Int) - 1) = true := by have := HMN.out; simp; omega
            clear HMN hmin2 hmin3
            go_wp2_with (go_at_call 8; (with_reducible refine (alive_any _).mono ?_); rintro e w5 ⟨rfl, hb7⟩)
            go_ret
            exact ⟨rfl, hb1.trans (hb7.mono hb1.size)⟩
          · obtain ⟨q, hq⟩ : ∃ q, j - h = q := ⟨_, rfl⟩
            have hp := Tree.parse_even (k := j) (by omega)
            have hqj : q = j := by omega
            rw [hq] at *
            subst hqj
            have hlen' : (Tree.par q q).length ≤ 1000 := by rw [Tree.par_len]; omega
            have HP := Lib.hid hp
            clear hp hq hlen
            rcases Nat.eq_zero_or_pos q with rfl | hpos
            · have e2 : decide ((0 : Int) < ((0 : Nat) : Int)) = false := rfl
              have e2n : (((0 : Nat) : Int) == 0) = true := rfl
              clear hc h200
              go_wp2_with fail
              refine (parse_at _ _ _ HP.out hlen').mono ?_
              rintro e w1 ⟨A1, c1, rfl, hl1, hc1, hm1, hb1⟩
              dsimp only [Tree.nst, List.length_nil]
              clear hl1 hc1
              go_wp2_with (go_at_call 8; (with_reducible refine (alive_any _).mono ?_); rintro e w5 ⟨rfl, hb7⟩)
              all_goals (go_ret; exact ⟨rfl, hb1.trans (hb7.mono hb1.size)⟩)
            · obtain rfl : h = 0 := by omega
              obtain ⟨q, rfl⟩ : ∃ r, q = r + 1 := ⟨q - 1, by omega⟩
              have e0 : (((q + 1 : Nat) : Int) == 0) = false := by simp; omega
              clear hc
              go_wp2_with fail
              refine (parse_at _ _ _ HP.out hlen').mono ?_
              rintro e w1 ⟨A1, c1, rfl, hl1, hc1, hm1, hb1⟩
              rw [show (Tree.nst (q + 1) 0, (0 : Nat), (0 : Int)).1.length = 1 from rfl] at *
              obtain ⟨g, o, rfl, hg, a0, a1, a2, A2, c2, a3, hl2, hc2, hm2⟩ := hl1.get 0 (by show 0 < 1; decide)
              have hg2 := hg.2
              obtain ⟨ch, hch⟩ : ∃ ch, Tree.nst q 1 = ch := ⟨_, rfl⟩
              replace a0 : w1.cell? ⟨g, o, none⟩ = some (.int .i64 0) := by rw [Nat.zero_mul, Nat.add_zero] at a0; exact a0
              replace a1 : w1.cell? ⟨g, o + 1, none⟩ = some (.int .i64 0) := by rw [Nat.zero_mul, Nat.add_zero] at a1; exact a1
              replace a2 : w1.cell? ⟨g, o + 2, none⟩ = some (.string ⟨#[]⟩) := by rw [Nat.zero_mul, Nat.add_zero] at a2; exact a2
              replace a3 : w1.cell? ⟨g, o + 3, none⟩ = some (.slice A2 ch.length c2) := by rw [Nat.zero_mul, Nat.add_zero] at a3; rw [← hch]; exact a3
              replace hl2 : Lies w1 (Fresh w.heap.size w1) A2 ch := by rw [← hch]; exact hl2
              have hcn : Tree.counts ch = q := by rw [← hch]; exact Tree.nst_count q 1
              have hhn : Tree.highs ch = q := by rw [← hch]; exact Tree.nst_high q 1
              have HD : Hid (∀ w', Below w1.heap.size w1 w' → Calls Try.prog 13 #[.agg #[.int .i64 0, .int .i64 0, .string ⟨#[]⟩, .slice A2 ch.length c2]] w' fun e w'' => e = .returned (.int .i64 ((q + 1 : Nat) : Int)) ∧ Below w'.heap.size w' w'') := fun w' h => by
                have := deep_any (q + 1) ch (by omega) 0 0 ⟨#[]⟩ A2 c2 (Fresh w.heap.size w1) w' (hl2.keep (fun k hk => h.block k hk.2) (fun _ hk => hk)) (fun k hk => Nat.lt_of_lt_of_le hk.2 h.size) (by omega)
                rw [if_pos rfl, hhn] at this; exact this
              have HC : Hid (∀ w', Below w1.heap.size w1 w' → Calls Try.prog 14 #[.agg #[.int .i64 0, .int .i64 0, .string ⟨#[]⟩, .slice A2 ch.length c2]] w' fun e w'' => e = .returned (.int .i64 ((q + 1 : Nat) : Int)) ∧ Below w'.heap.size w' w'') := fun w' h => by
                have := count_any (q + 1) ch (by omega) 0 0 ⟨#[]⟩ A2 c2 (Fresh w.heap.size w1) w' (hl2.keep (fun k hk => h.block k hk.2) (fun _ hk => hk)) (fun k hk => Nat.lt_of_lt_of_le hk.2 h.size) (by omega)
                rw [hcn, Nat.add_comm] at this; exact this
              clear hch hcn hhn hl1 hl2 hc2 hm2
              go_wp2_with fail
              (with_reducible refine (HD.out _ (Below.refl _ _)).mono ?_)
              rintro e w2 ⟨rfl, hb2⟩
              replace a0 := (hb2.cell (p := ⟨g, o, none⟩) hg2).trans a0
              replace a1 := (hb2.cell (p := ⟨g, o + 1, none⟩) hg2).trans a1
              replace a2 := (hb2.cell (p := ⟨g, o + 2, none⟩) hg2).trans a2
              replace a3 := (hb2.cell (p := ⟨g, o + 3, none⟩) hg2).trans a3
              go_wp2_with fail
              (with_reducible refine (HC.out _ hb2).mono ?_)
              rintro e w3 ⟨rfl, hb3⟩
              have hb4 := (hb1.trans (hb2.mono hb1.size)).trans (hb3.mono (by have := hb1.size; have := hb2.size; omega))
              clear a0 a1 a2 a3 HD HC hb2 hb3
              go_wp2_with (go_at_call 8; (with_reducible refine (alive_any _).mono ?_); rintro e w5 ⟨rfl, hb7⟩)
              all_goals (go_ret; exact ⟨rfl, hb4.trans (hb7.mono hb4.size)⟩)
end Go.Proofs.Ytnjhbhbohnjckaa
