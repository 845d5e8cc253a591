/-
  The walk of the law LebReads.
-/
import Derived.Test.YtceepkgpdhdhnaaLebAlive
import Derived.Test.YtceepkgpdhdhnaaLebRefDec
set_option linter.unusedVariables false
namespace Go.Proofs.Ytceepkgpdhdhnaa
open Go.RowKit

set_option maxHeartbeats 1000000 in
set_option maxRecDepth 100000 in
theorem lebReads_walk (A : Option Addr) (c : Nat) (l : List UInt8) (bits : Int) (w : World) (hr : RdB w w.heap.size A l) (hmax : l.length ≤ 9223372036854775807) :
    Calls Try.prog 5 #[.slice A l.length c, .int .i64 bits] w fun e w' => e = .returned (.bool true) ∧ Below w.heap.size w w' := by
  by_cases hbig : 100 < l.length
  · go_enter Try.func5, Try.ntmps5
    go_wp2_with (go_at_call 9; refine (alive_any _).mono ?_; rintro e w1 ⟨rfl, hb⟩)
    go_ret
    exact ⟨rfl, hb⟩
  have hl100 : l.length ≤ 100 := by omega
  clear hmax hbig
  obtain ⟨⟨x, y, z⟩, hu⟩ : ∃ p, Leb.uF l bits = p := ⟨_, rfl⟩
  obtain ⟨⟨x', y', z'⟩, hs⟩ : ∃ p, Leb.sF l bits = p := ⟨_, rfl⟩
  have HU := Lib.hid hu; clear hu
  have HS := Lib.hid hs; clear hs
  go_enter Try.func5, Try.ntmps5
  go_wp2_with (first
    | (go_at_call 20; refine (u_any A c l bits _ _ hr (by omega)).mono ?_; rintro e w1 ⟨rfl, rfl⟩; rw [HU.out])
    | (go_at_call 19; refine (s_any A c l bits _ _ hr (by omega)).mono ?_; rintro e w1 ⟨rfl, rfl⟩; rw [HS.out])
    | (go_at_call 21; refine (refU_any A c l bits _ _ hr (by omega)).mono ?_; rintro e w1 ⟨rfl, rfl⟩; rw [HU.out])
    | (go_at_call 22; refine (refS_any A c l bits _ _ hr (by omega)).mono ?_; rintro e w1 ⟨rfl, rfl⟩; rw [HS.out])
    | (go_at_call 9; refine (alive_any _).mono ?_; rintro e w1 ⟨rfl, hb⟩))
  go_ret
  exact ⟨rfl, hb⟩
end Go.Proofs.Ytceepkgpdhdhnaa
