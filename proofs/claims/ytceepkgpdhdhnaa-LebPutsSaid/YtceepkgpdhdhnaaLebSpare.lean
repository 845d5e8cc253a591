/-
  PutU and PutS leave a slice and its spare capacity as they are: the law's helper spare returns true.
-/
import Derived.Test.YtceepkgpdhdhnaaLebPut
set_option linter.unusedVariables false
namespace Go.Proofs.Ytceepkgpdhdhnaa
open Go.RowKit

def r170 (l : List UInt8) (k : Nat) : List UInt8 := l ++ List.replicate k 170
theorem r170_zero (l : List UInt8) : r170 l 0 = l := by simp [r170]
theorem r170_succ (l : List UInt8) (k : Nat) : r170 l k ++ [170] = r170 l (k + 1) := by simp [r170, List.replicate_succ']
theorem r170_len (l : List UInt8) (k : Nat) : (r170 l k).length = l.length + k := by simp [r170]
theorem r170_get (l : List UInt8) (k j : Nat) (h0 : l.length ≤ j) (hj : j < (r170 l k).length) : (r170 l k)[j].toNat = 170 := by
  have e : (r170 l k)[j] = (List.replicate k (170 : UInt8))[j - l.length]'(by rw [r170_len] at hj; simp; omega) := List.getElem_append_right h0
  rw [e]; simp
theorem r170_front (l : List UInt8) (k : Nat) : (r170 l k).take l.length = l := by simp [r170]

theorem step170 {w w1 w2 : World} {l : List UInt8} {k n c : Nat} {v : Value} {A : Option Addr} (hn : n = l.length + k + 1) (hb : Below w.heap.size w w1) (hown1 : w1.ownsRow w.heap.size 5 1 v (l.length + k) (rb (r170 l k)))
    (hown : w2.ownsRow w.heap.size 5 1 (.slice A n c) n (rb (r170 l k ++ [170]))) (hg : w1.grownBy w2 v.ownBlock) :
    w2.ownsRow w.heap.size 5 1 (.slice A n c) (l.length + (k + 1)) (rb (r170 l (k + 1))) ∧ Below w.heap.size w w2 := by
  rw [r170_succ] at hown
  have e : n = l.length + (k + 1) := by omega
  rw [e] at hown ⊢
  exact ⟨hown, hb.trans (below_own hown1 hg hb.size)⟩

set_option maxHeartbeats 1000000 in
set_option maxRecDepth 100000 in
theorem spare_any (A : Option Addr) (c : Nat) (l : List UInt8) (n : Nat) (k : Int) (w : World) (hr : RdB w w.heap.size A l) (hl : l.length ≤ 100) (hn : InU64 n) (hk : InI64 k) :
    Calls Try.prog 18 #[.slice A l.length c, .int .u64 n, .int .i64 k] w fun e w' => e = .returned (.bool true) ∧ Below w.heap.size w w' := by
  have own0 := World.ownsRow_lit (base := w.heap.size) (e := 5) (size := 1) w #[] 0 (Nat.le_refl _) (Nat.zero_le _) rfl
  go_enter Try.func18, Try.ntmps18
  go_wp2_with (at_builtin; refine app_bytes _ rfl (.tmp 10) (.tmp 11) rfl w.heap.size _ [] rfl own0 w.heap.size A c l rfl (hr.alloc (Nat.le_refl _) _) (by simp; omega) (by simp) ?_; intro A1 c1 w1 hown1 hg1 hat1)
  have hb1 : Below w.heap.size w w1 := ((Below.refl _ _).alloc (Nat.le_refl _) _).trans (below_own own0 hg1 (by simp))
  rw [List.nil_append] at hown1
  clear hg1 hat1 own0
  go_loopw [7, 8] (fun v i wr => ∃ (j : Nat) (Ar : Option Addr) (cr : Nat), j ≤ 12 ∧ i = .int .i64 j ∧ v = .slice Ar (l.length + j) cr ∧ wr.ownsRow w.heap.size 5 1 (.slice Ar (l.length + j) cr) (l.length + j) (rb (r170 l j)) ∧ Below w.heap.size w wr) (fun _ i _ => 12 - (intOf i).toNat)
  case atStart => exact ⟨0, A1, c1, by omega, rfl, rfl, by rw [r170_zero]; exact hown1, hb1⟩
  case round =>
    clear hown1 hb1
    obtain ⟨j, Ar, cr, hj, rfl, rfl, hown, hbw⟩ := hrel
    have hsz := hbw.size
    by_cases hj12 : j < 12
    · go_wp2_with (at_builtin; refine app_byte_n wr _ rfl (.tmp 17) (.tmp 18) rfl w.heap.size _ (l.length + j) (r170 l j) (r170_len l j) rfl hown wr.heap.size rfl rfl (by omega) (by omega) (by omega) hsz ?_; intro A2 c2 w2 hown2 hg2 hat2)
      obtain ⟨q1, q2⟩ := step170 rfl hbw hown hown2 hg2
      clear hown2 hg2 hat2
      go_roundw
      case rel => exact ⟨j + 1, A2, c2, by omega, by go_num, rfl, q1, q2⟩
      case measure => simp [intOf]; omega
    · obtain rfl : j = 12 := by omega
      obtain ⟨g, hA, hgb, hgl, hcell⟩ := own_at hown (by omega)
      subst hA
      obtain ⟨hcap, _⟩ := own_cap hown
      have hrf : RdB wr wr.heap.size (some ⟨g, 0, none⟩) l := by
        have h0 : Reads wr wr.heap.size 1 (some ⟨g, 0, none⟩) (l.length + 12) (rb (r170 l 12)) := Reads.of_own hown
        have h1 := Reads.front h0 (k := l.length) (by omega)
        rw [Nat.mul_one, rb_take, r170_front] at h1
        exact h1
      go_wp2_with fail
      refine (putU_any _ _ l n _ hrf (by omega) hn).mono ?_
      rintro e w3 ⟨A3, c3, rfl, _, _, hb3⟩
      go_wp2_with fail
      refine (putS_any _ _ l k _ ((hrf.below hb3).more hb3.size) (by omega) hk).mono ?_
      rintro e w4 ⟨A4, c4, rfl, _, _, hb4⟩
      have b4 : Below wr.heap.size wr w4 := hb3.trans (hb4.mono hb3.size)
      have hcell4 : ∀ j, l.length ≤ j → j < l.length + 12 → w4.cell? ⟨g, j, none⟩ = some (.int .u8 170) := by
        intro j h0 h1
        have e := hcell j (by rw [r170_len]; omega)
        rw [r170_get l 12 j h0 (by rw [r170_len]; omega)] at e
        exact (b4.cell (p := ⟨g, j, none⟩) hgl).trans e
      have hr4 : RdB w4 w.heap.size A l := (hr.below hbw).below (b4.mono hsz)
      have hrf4 := hrf.below b4
      have bw4 : Below w.heap.size w w4 := hbw.trans (b4.mono hsz)
      have HC := Lib.hid hcell4
      clear hcell hcell4 hown hb3 hb4 hrf hr
      go_wp2_with fail
      go_loop [9] (fun i => ∃ j : Nat, l.length ≤ j ∧ j ≤ l.length + 12 ∧ i = .int .i64 j) (fun i => l.length + 12 - (intOf i).toNat)
      case atStart => exact ⟨l.length, by omega, by omega, rfl⟩
      case round =>
        obtain ⟨j, hj0, hj1, rfl⟩ := hrel
        by_cases hlt : j < l.length + 12
        · have hc := HC.out j hj0 hlt
          go_wp2
          go_round
          case rel => exact ⟨j + 1, by omega, by omega, by go_num⟩
          case measure => simp [intOf]; omega
        · have k1 := fun q => run_string_of_bytes (P := Try.prog) (w4.drewN q) 22 9 5 Try.underlying22 Try.underlying5 Try.underlying9 (hrf4.drewN q) cr
          have k2 := fun q => run_string_of_bytes (P := Try.prog) (w4.drewN q) 22 9 5 Try.underlying22 Try.underlying5 Try.underlying9 (hr4.drewN q) c
          go_wp2_with fail
          go_quiet (fail)
          go_wp2
          go_ret
          exact ⟨by simp, below_drewN bw4 _⟩
end Go.Proofs.Ytceepkgpdhdhnaa
