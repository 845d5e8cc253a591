/-
  Layer 51, the reference: words, the fields of a kind, natural, unused2. (Printed by gen_mr3.py.)
-/
import Derived.Test.YtadnfekogmjieaaGreatDoorGGP
import Derived.Test.YtadnfekogmjieaaGreatDoorGGI
import Derived.Test.YtadnfekogmjieaaGreatDoorGMC5
set_option linter.unusedVariables false
set_option linter.unusedSimpArgs false
namespace Go.Proofs.YtadnfekogmjieaaGreatDoor
open Go.RowKit
open Mc (Pl Mi Mf)
set_option maxHeartbeats 4000000 in
set_option maxRecDepth 100000 in
theorem rhasOp_any (k : Int) (w : World) : Calls Tryz.prog 78 #[.int .i64 k] w fun e w' => e = .returned (.bool (Mc.hOp k)) ∧ w = w' := by
  unfold Mc.hOp
  rcases h0 : (k == 2) with _ | _
  case true =>
    go_enter Tryz.func78, Tryz.ntmps78
    go_wp2
    go_ret
    exact ⟨rfl, rfl⟩
  rcases h1 : (k == 3) with _ | _
  case true =>
    go_enter Tryz.func78, Tryz.ntmps78
    go_wp2
    go_ret
    exact ⟨rfl, rfl⟩
  rcases h2 : (k == 5) with _ | _
  case true =>
    go_enter Tryz.func78, Tryz.ntmps78
    go_wp2
    go_ret
    exact ⟨rfl, rfl⟩
  rcases h3 : (k == 6) with _ | _
  case true =>
    go_enter Tryz.func78, Tryz.ntmps78
    go_wp2
    go_ret
    exact ⟨rfl, rfl⟩
  rcases h4 : (k == 16) with _ | _
  case true =>
    go_enter Tryz.func78, Tryz.ntmps78
    go_wp2
    go_ret
    exact ⟨rfl, rfl⟩
  rcases h5 : (k == 17) with _ | _
  all_goals
    go_enter Tryz.func78, Tryz.ntmps78
    go_wp2
    go_ret
    exact ⟨rfl, rfl⟩
set_option maxHeartbeats 4000000 in
set_option maxRecDepth 100000 in
theorem rhasA_any (k : Int) (w : World) : Calls Tryz.prog 81 #[.int .i64 k] w fun e w' => e = .returned (.bool (Mc.hA k)) ∧ w = w' := by
  unfold Mc.hA
  rcases h0 : (k == 7) with _ | _
  case true =>
    go_enter Tryz.func81, Tryz.ntmps81
    go_wp2
    go_ret
    exact ⟨rfl, rfl⟩
  rcases h1 : (k == 10) with _ | _
  case true =>
    go_enter Tryz.func81, Tryz.ntmps81
    go_wp2
    go_ret
    exact ⟨rfl, rfl⟩
  rcases h2 : (k == 11) with _ | _
  case true =>
    go_enter Tryz.func81, Tryz.ntmps81
    go_wp2
    go_ret
    exact ⟨rfl, rfl⟩
  rcases h3 : (k == 12) with _ | _
  case true =>
    go_enter Tryz.func81, Tryz.ntmps81
    go_wp2
    go_ret
    exact ⟨rfl, rfl⟩
  rcases h4 : (k == 13) with _ | _
  case true =>
    go_enter Tryz.func81, Tryz.ntmps81
    go_wp2
    go_ret
    exact ⟨rfl, rfl⟩
  rcases h5 : (k == 14) with _ | _
  case true =>
    go_enter Tryz.func81, Tryz.ntmps81
    go_wp2
    go_ret
    exact ⟨rfl, rfl⟩
  rcases h6 : (k == 16) with _ | _
  case true =>
    go_enter Tryz.func81, Tryz.ntmps81
    go_wp2
    go_ret
    exact ⟨rfl, rfl⟩
  rcases h7 : (k == 17) with _ | _
  case true =>
    go_enter Tryz.func81, Tryz.ntmps81
    go_wp2
    go_ret
    exact ⟨rfl, rfl⟩
  rcases h8 : (k == 18) with _ | _
  all_goals
    go_enter Tryz.func81, Tryz.ntmps81
    go_wp2
    go_ret
    exact ⟨rfl, rfl⟩
set_option maxHeartbeats 4000000 in
set_option maxRecDepth 100000 in
theorem rhasB_any (k : Int) (w : World) : Calls Tryz.prog 82 #[.int .i64 k] w fun e w' => e = .returned (.bool (Mc.hB k)) ∧ w = w' := by
  unfold Mc.hB
  rcases h0 : (k == 5) with _ | _
  case true =>
    go_enter Tryz.func82, Tryz.ntmps82
    go_wp2
    go_ret
    exact ⟨rfl, rfl⟩
  rcases h1 : (k == 6) with _ | _
  case true =>
    go_enter Tryz.func82, Tryz.ntmps82
    go_wp2
    go_ret
    exact ⟨rfl, rfl⟩
  rcases h2 : (k == 7) with _ | _
  case true =>
    go_enter Tryz.func82, Tryz.ntmps82
    go_wp2
    go_ret
    exact ⟨rfl, rfl⟩
  rcases h3 : (k == 8) with _ | _
  case true =>
    go_enter Tryz.func82, Tryz.ntmps82
    go_wp2
    go_ret
    exact ⟨rfl, rfl⟩
  rcases h4 : (k == 9) with _ | _
  case true =>
    go_enter Tryz.func82, Tryz.ntmps82
    go_wp2
    go_ret
    exact ⟨rfl, rfl⟩
  rcases h5 : (k == 13) with _ | _
  case true =>
    go_enter Tryz.func82, Tryz.ntmps82
    go_wp2
    go_ret
    exact ⟨rfl, rfl⟩
  rcases h6 : (k == 16) with _ | _
  case true =>
    go_enter Tryz.func82, Tryz.ntmps82
    go_wp2
    go_ret
    exact ⟨rfl, rfl⟩
  rcases h7 : (k == 17) with _ | _
  all_goals
    go_enter Tryz.func82, Tryz.ntmps82
    go_wp2
    go_ret
    exact ⟨rfl, rfl⟩
set_option maxHeartbeats 4000000 in
set_option maxRecDepth 100000 in
theorem rhasN_any (k : Int) (w : World) : Calls Tryz.prog 83 #[.int .i64 k] w fun e w' => e = .returned (.bool (Mc.hN k)) ∧ w = w' := by
  unfold Mc.hN
  rcases h0 : (k == 0) with _ | _
  case true =>
    go_enter Tryz.func83, Tryz.ntmps83
    go_wp2
    go_ret
    exact ⟨rfl, rfl⟩
  rcases h1 : (k == 5) with _ | _
  case true =>
    go_enter Tryz.func83, Tryz.ntmps83
    go_wp2
    go_ret
    exact ⟨rfl, rfl⟩
  rcases h2 : (k == 6) with _ | _
  case true =>
    go_enter Tryz.func83, Tryz.ntmps83
    go_wp2
    go_ret
    exact ⟨rfl, rfl⟩
  rcases h3 : (k == 7) with _ | _
  all_goals
    go_enter Tryz.func83, Tryz.ntmps83
    go_wp2
    go_ret
    exact ⟨rfl, rfl⟩
end Go.Proofs.YtadnfekogmjieaaGreatDoor
