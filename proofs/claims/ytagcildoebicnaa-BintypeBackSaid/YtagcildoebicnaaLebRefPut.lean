/-
  The reference's PutU, PutS, Len, LenS compute the same plain functions.
-/
import Derived.Test.YtagcildoebicnaaLebPut
set_option linter.unusedVariables false
namespace Go.Proofs.Ytagcildoebicnaa
open Go.RowKit

set_option maxHeartbeats 400000 in
set_option maxRecDepth 100000 in
theorem refPutU_any (A : Option Addr) (c : Nat) (l : List UInt8) (n : Nat) (w : World) (hr : RdB w w.heap.size A l) (hl : l.length ≤ 1000000) (hn : InU64 n) :
    Calls Try.prog 97 #[.slice A l.length c, .int .u64 n] w (RetB (l ++ Leb.putU n) w) := by
  obtain ⟨i0, hi0, hz0, hz1, hz2⟩ := info_parts info_u8
  have own0 := World.ownsRow_lit (base := w.heap.size) (e := 5) (size := 1) w #[] 0 (Nat.le_refl _) (Nat.zero_le _) rfl
  go_enter Try.func97, Try.ntmps97
  go_wp2_with (at_builtin; refine app_bytes _ rfl (.tmp 6) (.tmp 7) rfl w.heap.size _ [] rfl own0 w.heap.size A c l rfl (hr.alloc (Nat.le_refl _) _) (by simp; omega) (by simp) ?_; intro A1 c1 w1 hown1 hg1 hat1)
  have hb1 : Below w.heap.size w w1 := ((Below.refl _ _).alloc (Nat.le_refl _) _).trans (below_own own0 hg1 (by simp))
  have hR : PutRel w l (Leb.putU n) (Leb.putU n) (.slice A1 l.length c1) w1 := ⟨[], by simp, by simpa using hown1, hb1⟩
  clear hown1 hg1 hat1 hb1 own0
  go_loopw [1, 5] (fun nv v wr => ∃ m : Nat, InU64 m ∧ nv = .int .u64 m ∧ PutRel w l (Leb.putU n) (Leb.putU m) v wr) (fun nv _ _ => (intOf nv).toNat)
  case atStart => exact ⟨n, hn, rfl, hR⟩
  case round =>
    clear hR
    obtain ⟨m, hm, rfl, pre, hfull, hown, hbw⟩ := hrel
    have hlen : (l ++ pre).length ≤ 1000010 := by
      have h10 := Leb.putU_len10 n (by unfold InU64 at hn; omega)
      rw [hfull] at h10; simp at h10 ⊢; omega
    have Hf := Lib.hid hfull
    have hsz := hbw.size
    clear hfull
    by_cases h128 : m < 128
    · go_wp2_with (at_builtin; refine app_byte wr _ rfl (.tmp 20) (.tmp 23) rfl w.heap.size _ (l ++ pre) rfl hown rfl (by omega) (by omega) (by omega) hsz ?_; intro A2 c2 w2 hown2 hg2 hat2)
      go_ret
      exact put_end (by rw [Hf.out, Leb.putU_small h128]) hbw hown rfl (by simpa using hown2) hg2
    · have hm0 : (0 : Int) ≤ (m : Int) % 256 := by omega
      have hm1 : (m : Int) % 256 < 256 := by omega
      have hq : IntKind.u64.wrap ((m : Int) / 128) = (m : Int) / 128 := Leb.wrapU _ (by omega) (by unfold InU64 at hm; omega)
      go_wp2_with (at_builtin; refine app_byte wr _ rfl (.tmp 11) (.tmp 16) rfl w.heap.size _ (l ++ pre) rfl hown rfl (by omega) (by omega) (by omega) hsz ?_; intro A2 c2 w2 hown2 hg2 hat2)
      go_roundw
      case rel =>
        refine ⟨m / 128, by unfold InU64 at hm ⊢; omega, by go_num, put_step (x := UInt8.ofNat (m % 128 + 128)) ?_ hbw hown rfl ?_ hg2⟩
        · rw [Hf.out, Leb.putU_big h128]
        · have e : ((m : Int) % 128 + 128).toNat = m % 128 + 128 := by omega
          rw [e] at hown2
          simpa using hown2
      case measure => simp [intOf]; omega
set_option maxHeartbeats 800000 in
set_option maxRecDepth 100000 in
theorem refPutS_any (A : Option Addr) (c : Nat) (l : List UInt8) (n : Int) (w : World) (hr : RdB w w.heap.size A l) (hl : l.length ≤ 1000000) (hn : InI64 n) :
    Calls Try.prog 91 #[.slice A l.length c, .int .i64 n] w (RetB (l ++ Leb.putS n) w) := by
  have own0 := World.ownsRow_lit (base := w.heap.size) (e := 5) (size := 1) w #[] 0 (Nat.le_refl _) (Nat.zero_le _) rfl
  go_enter Try.func91, Try.ntmps91
  go_wp2_with (at_builtin; refine app_bytes _ rfl (.tmp 6) (.tmp 7) rfl w.heap.size _ [] rfl own0 w.heap.size A c l rfl (hr.alloc (Nat.le_refl _) _) (by simp; omega) (by simp) ?_; intro A1 c1 w1 hown1 hg1 hat1)
  have hb1 : Below w.heap.size w w1 := ((Below.refl _ _).alloc (Nat.le_refl _) _).trans (below_own own0 hg1 (by simp))
  have hR : PutRel w l (Leb.putS n) (Leb.putS n) (.slice A1 l.length c1) w1 := ⟨[], by simp, by simpa using hown1, hb1⟩
  clear hown1 hg1 hat1 hb1 own0
  go_loopw [1, 5] (fun nv v wr => ∃ m : Int, InI64 m ∧ nv = .int .i64 m ∧ PutRel w l (Leb.putS n) (Leb.putS m) v wr) (fun nv _ _ => (intOf nv).natAbs)
  case atStart => exact ⟨n, hn, rfl, hR⟩
  case round =>
    clear hR
    obtain ⟨m, hm, rfl, pre, hfull, hown, hbw⟩ := hrel
    have hlen : (l ++ pre).length ≤ 1000010 := by
      have h10 := Leb.putS_len10 n hn.1 hn.2
      rw [hfull] at h10; simp at h10 ⊢; omega
    have Hf := Lib.hid hfull
    have hsz := hbw.size
    clear hfull
    have hm0 : (0 : Int) ≤ m % 256 := by omega
    have hm1 : m % 256 < 256 := by omega
    by_cases hlt : m < -64
    · have ho := Leb.and127_i64 m hm.1 hm.2
      go_wp2_with (at_builtin; refine app_byte wr _ rfl (.tmp 15) (.tmp 20) rfl w.heap.size _ (l ++ pre) rfl hown rfl (by omega) (by omega) (by omega) hsz ?_; intro A2 c2 w2 hown2 hg2 hat2)
      go_roundw
      case rel =>
        refine ⟨m / 128, by unfold InI64 at hm ⊢; omega, by go_num, put_step (x := UInt8.ofNat ((m % 128).toNat + 128)) ?_ hbw hown rfl ?_ hg2⟩
        · rw [Hf.out, Leb.putS_big (by omega)]
        · have e : (m % 128 + 128).toNat = (m % 128).toNat + 128 := by omega
          rw [e] at hown2
          simpa using hown2
      case measure => simp [intOf]; omega
    · by_cases hgt : 63 < m
      · have ho := Leb.and127_i64 m hm.1 hm.2
        go_wp2_with (at_builtin; refine app_byte wr _ rfl (.tmp 15) (.tmp 20) rfl w.heap.size _ (l ++ pre) rfl hown rfl (by omega) (by omega) (by omega) hsz ?_; intro A2 c2 w2 hown2 hg2 hat2)
        go_roundw
        case rel =>
          refine ⟨m / 128, by unfold InI64 at hm ⊢; omega, by go_num, put_step (x := UInt8.ofNat ((m % 128).toNat + 128)) ?_ hbw hown rfl ?_ hg2⟩
          · rw [Hf.out, Leb.putS_big (by omega)]
          · have e : (m % 128 + 128).toNat = (m % 128).toNat + 128 := by omega
            rw [e] at hown2
            simpa using hown2
        case measure => simp [intOf]; omega
      · have ho := Leb.and127_i64 m hm.1 hm.2
        go_wp2_with (at_builtin; refine app_byte wr _ rfl (.tmp 24) (.tmp 28) rfl w.heap.size _ (l ++ pre) rfl hown rfl (by omega) (by omega) (by omega) hsz ?_; intro A2 c2 w2 hown2 hg2 hat2)
        go_ret
        exact put_end (by rw [Hf.out, Leb.putS_small (by omega)]) hbw hown rfl (by simpa using hown2) hg2

end Go.Proofs.Ytagcildoebicnaa
