/-
  leb.PutU and leb.PutS append the shortest encoding to a copy of the slice.
-/
import Derived.Test.YtagcildoebicnaaWords
import Derived.Test.YtagcildoebicnaaLebPlain
set_option linter.unusedVariables false
namespace Go.Proofs.Ytagcildoebicnaa
open Go.RowKit

def InU64 (n : Nat) : Prop := n ≤ 18446744073709551615
def PutRel (w : World) (l full : List UInt8) (tail : List UInt8) (v : Value) (wr : World) : Prop :=
  ∃ pre, full = pre ++ tail ∧ wr.ownsRow w.heap.size 5 1 v (l ++ pre).length (rb (l ++ pre)) ∧ Below w.heap.size w wr

theorem put_end {w w1 w2 : World} {l full pre : List UInt8} {v : Value} {x : UInt8} {A : Option Addr} {c n : Nat} (hf : full = pre ++ [x]) (hb : Below w.heap.size w w1) (hown1 : w1.ownsRow w.heap.size 5 1 v (l ++ pre).length (rb (l ++ pre)))
    (hn : n = l.length + pre.length + 1) (hown : w2.ownsRow w.heap.size 5 1 (.slice A n c) n (rb (l ++ (pre ++ [x])))) (hg : w1.grownBy w2 v.ownBlock) :
    RetB (l ++ full) w (.returned (.slice A n c)) w2 := by
  subst hf
  have hn' : n = (l ++ (pre ++ [x])).length := by simp [hn]; omega
  subst hn'
  obtain ⟨A', c', he, hc, _⟩ := own_slice hown
  injection he with _ _ he
  subst he
  exact ⟨A, c, rfl, hown, hc, hb.trans (below_own hown1 hg hb.size)⟩

theorem put_step {w w1 w2 : World} {l full pre tail : List UInt8} {v : Value} {x : UInt8} {A : Option Addr} {c n : Nat} (hf : full = pre ++ (x :: tail)) (hb : Below w.heap.size w w1) (hown1 : w1.ownsRow w.heap.size 5 1 v (l ++ pre).length (rb (l ++ pre)))
    (hn : n = l.length + pre.length + 1) (hown : w2.ownsRow w.heap.size 5 1 (.slice A n c) n (rb (l ++ (pre ++ [x])))) (hg : w1.grownBy w2 v.ownBlock) :
    PutRel w l full tail (.slice A n c) w2 := by
  subst hf
  have hn' : n = (l ++ (pre ++ [x])).length := by simp [hn]; omega
  subst hn'
  exact ⟨pre ++ [x], by simp, hown, hb.trans (below_own hown1 hg hb.size)⟩

set_option maxHeartbeats 400000 in
set_option maxRecDepth 100000 in
theorem putU_any (A : Option Addr) (c : Nat) (l : List UInt8) (n : Nat) (w : World) (hr : RdB w w.heap.size A l) (hl : l.length ≤ 1000000) (hn : InU64 n) :
    Calls Try.prog 94 #[.slice A l.length c, .int .u64 n] w (RetB (l ++ Leb.putU n) w) := by
  obtain ⟨i0, hi0, hz0, hz1, hz2⟩ := info_parts info_u8
  have own0 := World.ownsRow_lit (base := w.heap.size) (e := 5) (size := 1) w #[] 0 (Nat.le_refl _) (Nat.zero_le _) rfl
  go_enter Try.func94, Try.ntmps94
  go_wp2_with (at_builtin; refine app_bytes _ rfl (.tmp 6) (.tmp 7) rfl w.heap.size _ [] rfl own0 w.heap.size A c l rfl (hr.alloc (Nat.le_refl _) _) (by simp; omega) (by simp) ?_; intro A1 c1 w1 hown1 hg1 hat1)
  have hb1 : Below w.heap.size w w1 := ((Below.refl _ _).alloc (Nat.le_refl _) _).trans (below_own own0 hg1 (by simp))
  have hR : PutRel w l (Leb.putU n) (Leb.putU n) (.slice A1 l.length c1) w1 := ⟨[], by simp, by simpa using hown1, hb1⟩
  clear hown1 hg1 hat1 hb1 own0
  go_loopw [1, 5] (fun nv v wr => ∃ m : Nat, InU64 m ∧ nv = .int .u64 m ∧ PutRel w l (Leb.putU n) (Leb.putU m) v wr) (fun nv _ _ => (intOf nv).toNat)
  case atStart => exact ⟨n, hn, rfl, hR⟩
  case round =>
    clear hR
    obtain ⟨m, hm, rfl, pre, hfull, hown, hbw⟩ := hrel
    have hlen : (l ++ pre).length ≤ 1000010 := by
      have h10 := Leb.putU_len10 n (by unfold InU64 at hn; omega)
      rw [hfull] at h10; simp at h10 ⊢; omega
    have Hf := Lib.hid hfull
    have hsz := hbw.size
    clear hfull
    by_cases h128 : m < 128
    · go_wp2_with (at_builtin; refine app_byte wr _ rfl (.tmp 19) (.tmp 22) rfl w.heap.size _ (l ++ pre) rfl hown rfl (by omega) (by omega) (by omega) hsz ?_; intro A2 c2 w2 hown2 hg2 hat2)
      go_ret
      exact put_end (by rw [Hf.out, Leb.putU_small h128]) hbw hown rfl (by simpa using hown2) hg2
    · have hm0 : (0 : Int) ≤ (m : Int) % 256 := by omega
      have hm1 : (m : Int) % 256 < 256 := by omega
      have ho := Leb.or128 ((m : Int) % 256) hm0 hm1
      go_wp2_with (at_builtin; refine app_byte wr _ rfl (.tmp 11) (.tmp 15) rfl w.heap.size _ (l ++ pre) rfl hown rfl (by omega) (by omega) (by omega) hsz ?_; intro A2 c2 w2 hown2 hg2 hat2)
      go_roundw
      case rel =>
        refine ⟨m / 128, by unfold InU64 at hm ⊢; omega, by go_num, put_step (x := UInt8.ofNat (m % 128 + 128)) ?_ hbw hown rfl ?_ hg2⟩
        · rw [Hf.out, Leb.putU_big h128]
        · have e : ((m : Int) % 128 + 128).toNat = m % 128 + 128 := by omega
          rw [e] at hown2
          simpa using hown2
      case measure => simp [intOf]; omega

def InI64 (n : Int) : Prop := -9223372036854775808 ≤ n ∧ n ≤ 9223372036854775807

set_option maxHeartbeats 800000 in
set_option maxRecDepth 100000 in
theorem putS_any (A : Option Addr) (c : Nat) (l : List UInt8) (n : Int) (w : World) (hr : RdB w w.heap.size A l) (hl : l.length ≤ 1000000) (hn : InI64 n) :
    Calls Try.prog 85 #[.slice A l.length c, .int .i64 n] w (RetB (l ++ Leb.putS n) w) := by
  have own0 := World.ownsRow_lit (base := w.heap.size) (e := 5) (size := 1) w #[] 0 (Nat.le_refl _) (Nat.zero_le _) rfl
  go_enter Try.func85, Try.ntmps85
  go_wp2_with (at_builtin; refine app_bytes _ rfl (.tmp 6) (.tmp 7) rfl w.heap.size _ [] rfl own0 w.heap.size A c l rfl (hr.alloc (Nat.le_refl _) _) (by simp; omega) (by simp) ?_; intro A1 c1 w1 hown1 hg1 hat1)
  have hb1 : Below w.heap.size w w1 := ((Below.refl _ _).alloc (Nat.le_refl _) _).trans (below_own own0 hg1 (by simp))
  have hR : PutRel w l (Leb.putS n) (Leb.putS n) (.slice A1 l.length c1) w1 := ⟨[], by simp, by simpa using hown1, hb1⟩
  clear hown1 hg1 hat1 hb1 own0
  go_loopw [1, 5] (fun nv v wr => ∃ m : Int, InI64 m ∧ nv = .int .i64 m ∧ PutRel w l (Leb.putS n) (Leb.putS m) v wr) (fun nv _ _ => (intOf nv).natAbs)
  case atStart => exact ⟨n, hn, rfl, hR⟩
  case round =>
    clear hR
    obtain ⟨m, hm, rfl, pre, hfull, hown, hbw⟩ := hrel
    have hlen : (l ++ pre).length ≤ 1000010 := by
      have h10 := Leb.putS_len10 n hn.1 hn.2
      rw [hfull] at h10; simp at h10 ⊢; omega
    have Hf := Lib.hid hfull
    have hsz := hbw.size
    clear hfull
    have hm0 : (0 : Int) ≤ m % 256 := by omega
    have hm1 : m % 256 < 256 := by omega
    by_cases hlt : m < -64
    · have ho := Leb.or128 (m % 256) hm0 hm1
      go_wp2_with (at_builtin; refine app_byte wr _ rfl (.tmp 15) (.tmp 19) rfl w.heap.size _ (l ++ pre) rfl hown rfl (by omega) (by omega) (by omega) hsz ?_; intro A2 c2 w2 hown2 hg2 hat2)
      go_roundw
      case rel =>
        refine ⟨m / 128, by unfold InI64 at hm ⊢; omega, by go_num, put_step (x := UInt8.ofNat ((m % 128).toNat + 128)) ?_ hbw hown rfl ?_ hg2⟩
        · rw [Hf.out, Leb.putS_big (by omega)]
        · have e : (m % 128 + 128).toNat = (m % 128).toNat + 128 := by omega
          rw [e] at hown2
          simpa using hown2
      case measure => simp [intOf]; omega
    · by_cases hgt : 63 < m
      · have ho := Leb.or128 (m % 256) hm0 hm1
        go_wp2_with (at_builtin; refine app_byte wr _ rfl (.tmp 15) (.tmp 19) rfl w.heap.size _ (l ++ pre) rfl hown rfl (by omega) (by omega) (by omega) hsz ?_; intro A2 c2 w2 hown2 hg2 hat2)
        go_roundw
        case rel =>
          refine ⟨m / 128, by unfold InI64 at hm ⊢; omega, by go_num, put_step (x := UInt8.ofNat ((m % 128).toNat + 128)) ?_ hbw hown rfl ?_ hg2⟩
          · rw [Hf.out, Leb.putS_big (by omega)]
          · have e : (m % 128 + 128).toNat = (m % 128).toNat + 128 := by omega
            rw [e] at hown2
            simpa using hown2
        case measure => simp [intOf]; omega
      · have ho := Leb.and127 (m % 256) hm0 hm1
        go_wp2_with (at_builtin; refine app_byte wr _ rfl (.tmp 23) (.tmp 27) rfl w.heap.size _ (l ++ pre) rfl hown rfl (by omega) (by omega) (by omega) hsz ?_; intro A2 c2 w2 hown2 hg2 hat2)
        go_ret
        exact put_end (by rw [Hf.out, Leb.putS_small (by omega)]) hbw hown rfl (by simpa using hown2) hg2

end Go.Proofs.Ytagcildoebicnaa
