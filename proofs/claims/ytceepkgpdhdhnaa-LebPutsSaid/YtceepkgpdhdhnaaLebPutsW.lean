/-
  The walk of the law LebPuts.
-/
import Derived.Test.YtceepkgpdhdhnaaLebAlive
import Derived.Test.YtceepkgpdhdhnaaLebRefPut
import Derived.Test.YtceepkgpdhdhnaaLebSpare
import Derived.Deep.RegionWith
set_option linter.unusedVariables false
namespace Go.Proofs.Ytceepkgpdhdhnaa
open Go.RowKit

theorem cv {W : World} {B : Nat} {A : Option Addr} {l : List UInt8} (h : RdB W B A l) (c : Nat) :
    (convert 22 9 (.slice A l.length c)).run Try.prog W = .ok (.string ⟨l.toArray⟩) W :=
  run_string_of_bytes (P := Try.prog) W 22 9 5 Try.underlying22 Try.underlying5 Try.underlying9 h c

set_option maxHeartbeats 100000000 in
set_option maxRecDepth 100000 in
theorem lebPuts_walk (A : Option Addr) (c : Nat) (l : List UInt8) (n : Nat) (k : Int) (w : World) (hr : RdB w w.heap.size A l) (hmax : l.length ≤ 9223372036854775807) (hn : InU64 n) (hk : InI64 k) :
    Calls Try.prog 3 #[.slice A l.length c, .int .u64 n, .int .i64 k] w fun e w' => e = .returned (.bool true) ∧ Below w.heap.size w w' := by
  by_cases hbig : 100 < l.length
  · go_enter Try.func3, Try.ntmps3
    go_wp2_with (go_at_call 9; refine (alive_any _).mono ?_; rintro e w1 ⟨rfl, hb⟩)
    go_ret
    exact ⟨rfl, hb⟩
  have hl100 : l.length ≤ 100 := by omega
  have g1 : decide ((100 : Int) < (l.length : Int)) = false := by simp; omega
  clear hmax hbig
  obtain ⟨L, hL⟩ : ∃ L, l ++ Leb.putU n = L := ⟨_, rfl⟩
  obtain ⟨M, hM⟩ : ∃ M, l ++ Leb.putS k = M := ⟨_, rfl⟩
  have C1 : Hid (∀ W : World, RdB W W.heap.size A l → Calls Try.prog 10 #[.slice A l.length c, .int .u64 n] W (RetB L W)) := fun W h => by rw [← hL]; exact putU_any A c l n W h (by omega) hn
  have C2 : Hid (∀ W : World, RdB W W.heap.size A l → Calls Try.prog 11 #[.slice A l.length c, .int .u64 n] W (RetB L W)) := fun W h => by rw [← hL]; exact refPutU_any A c l n W h (by omega) hn
  have C3 : Hid (∀ W : World, RdB W W.heap.size A l → Calls Try.prog 12 #[.slice A l.length c, .int .i64 k] W (RetB M W)) := fun W h => by rw [← hM]; exact putS_any A c l k W h (by omega) hk
  have C4 : Hid (∀ W : World, RdB W W.heap.size A l → Calls Try.prog 13 #[.slice A l.length c, .int .i64 k] W (RetB M W)) := fun W h => by rw [← hM]; exact refPutS_any A c l k W h (by omega) hk
  clear hL hM
  go_enter Try.func3, Try.ntmps3
  go_wp2_with fail
  go_region_with (first
    | (go_at_call 10; refine (C1.out _ ?_).mono ?_; exact hr; rintro e w1 ⟨A1, c1, rfl, hown1, hc1, hb1⟩; have hr1 : RdB w1 w.heap.size A l := hr.drew.below hb1; have R1 := RdB.of_own hown1; have s1 : w.heap.size ≤ w1.heap.size := hb1.size; have cv1 := cv R1 c1; clear hown1 hc1 C1)
    | (go_at_call 11; refine (C2.out _ ?_).mono ?_; exact hr1.more s1; rintro e w2 ⟨A2, c2, rfl, hown2, hc2, hb2⟩; have hr2 : RdB w2 w.heap.size A l := hr1.below (hb2.mono s1); have R2 := RdB.of_own hown2; have s2 : w1.heap.size ≤ w2.heap.size := hb2.size; have cv2 := cv R2 c2; have cv1' := cv (R1.below hb2) c1; clear hown2 hc2 C2)
    | (go_at_call 12; refine (C3.out _ ?_).mono ?_; exact hr2.more (by omega); rintro e w3 ⟨A3, c3, rfl, hown3, hc3, hb3⟩; have hr3 : RdB w3 w.heap.size A l := hr2.below (hb3.mono (by omega)); have R3 := RdB.of_own hown3; have s3 : w2.heap.size ≤ w3.heap.size := hb3.size; have cv3 := cv R3 c3; clear hown3 hc3 C3 R1 R2 cv1 cv2 cv1')
    | (go_at_call 13; refine (C4.out _ ?_).mono ?_; exact hr3.more (by omega); rintro e w4 ⟨A4, c4, rfl, hown4, hc4, hb4⟩; have hr4 : RdB w4 w.heap.size A l := hr3.below (hb4.mono (by omega)); have R4 := RdB.of_own hown4; have s4 : w3.heap.size ≤ w4.heap.size := hb4.size; have cv4 := cv R4 c4; have cv3' := cv (R3.below hb4) c3; clear hown4 hc4 C4)
    | (go_at_call 14; refine (len_any n _ hn).mono ?_; rintro e w5 ⟨rfl, hb5⟩; clear R3 R4 cv3 cv4 cv3'; have s5 : w4.heap.size ≤ w5.heap.size := hb5.size)
    | (go_at_call 15; refine (refLen_any n _ hn).mono ?_; rintro e w6 ⟨rfl, hb6⟩; have s6 : w5.heap.size ≤ w6.heap.size := hb6.size)
    | (go_at_call 16; refine (lenS_any k _ hk).mono ?_; rintro e w7 ⟨rfl, hb7⟩; have s7 : w6.heap.size ≤ w7.heap.size := hb7.size)
    | (go_at_call 17; refine (refLenS_any k _ hk).mono ?_; rintro e w8 ⟨rfl, hb8⟩; have s8 : w7.heap.size ≤ w8.heap.size := hb8.size)
    | (go_at_call 18; refine (spare_any A c l n k _ ?_ hl100 hn hk).mono ?_; exact ((((hr4.below (hb5.mono (by omega))).below (hb6.mono (by omega))).below (hb7.mono (by omega))).below (hb8.mono (by omega))).more (by omega); rintro e w9 ⟨rfl, hb9⟩; have s9 : w8.heap.size ≤ w9.heap.size := hb9.size)
    | (go_at_call 9; refine (alive_any _).mono ?_; rintro e w10 ⟨rfl, hb10⟩; have s10 : w9.heap.size ≤ w10.heap.size := hb10.size))
  all_goals
    go_wp2
    go_ret
    refine ⟨?_, ?_⟩
    · first | rfl | (go_simp; done) | (go_simp; rfl) | (with_unfolding_all rfl)
    have b1 : Below w.heap.size w w1 := (Below.refl _ _).drew.trans hb1
    exact ((((((((b1.trans (hb2.mono (by omega))).trans (hb3.mono (by omega))).trans (hb4.mono (by omega))).trans (hb5.mono (by omega))).trans (hb6.mono (by omega))).trans (hb7.mono (by omega))).trans (hb8.mono (by omega))).trans (hb9.mono (by omega))).trans (hb10.mono (by omega))
end Go.Proofs.Ytceepkgpdhdhnaa
