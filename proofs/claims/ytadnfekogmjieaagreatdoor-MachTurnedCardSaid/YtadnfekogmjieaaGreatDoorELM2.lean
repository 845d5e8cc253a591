/-
  Layer 51, the laws: how long a module's bodies are together (chapter 7's rows). (Printed by gen_lm2.py.)
-/
import Derived.Test.YtadnfekogmjieaaGreatDoorELM1
set_option linter.unusedVariables false
set_option linter.unusedSimpArgs false
namespace Go.Proofs.YtadnfekogmjieaaGreatDoor
open Go.RowKit
/-- Some answer. -/
def SomeB (e : Ending) : Prop := ∃ b, e = .returned (.bool b)
theorem SomeB.of (b : Bool) : SomeB (.returned (.bool b)) := ⟨b, rfl⟩
set_option maxHeartbeats 8000000 in
set_option maxRecDepth 100000 in
/-- rows: some answer, and memory as it was. -/
theorem rows_any (l : List BV) (hl : l.length ≤ 1000000) (S : Nat → Prop) (A : Option Addr) (c : Nat) (most : Int) (w : World) (h : RdT w S A 1 (ItAt S) l) :
    Calls Tryz.prog 22 #[.slice A l.length c, .int .i64 most] w fun e w' => SomeB e ∧ w = w' := by
  go_enter Tryz.func22, Tryz.ntmps22
  go_wp2_with fail
  go_loopw [5, 6] (fun nv iv wr => ∃ (i : Nat) (z : Int), iv = .int .i64 (i : Int) ∧ i ≤ l.length ∧ nv = .int .i64 z ∧ wr = w) (fun _ iv _ => l.length - (intOf iv).toNat)
  case atStart => exact ⟨0, 0, rfl, by omega, rfl, rfl⟩
  case round =>
    obtain ⟨i, z, rfl, hi, rfl, rfl⟩ := hrel
    by_cases hia : i < l.length
    · have x0 : (i : Int) < (l.length : Int) := by omega
      have x1 : (0 : Int) ≤ (i : Int) := by omega
      obtain ⟨g, o, rfl, -, -, f0', hb⟩ := h.get hia
      obtain ⟨⟨B, n, d⟩, hv⟩ : ∃ v, l[i] = v := ⟨_, rfl⟩
      rw [hv] at f0' hb
      dsimp only at f0' hb
      have f0 : wr.cell? ⟨g, o + i, none⟩ = some (.slice B n d) := by rw [Nat.mul_one] at f0'; exact f0'
      obtain ⟨hn, u, hu, hrd⟩ := hb
      clear f0' hv
      obtain ⟨y, hy⟩ : ∃ y, IntKind.i64.wrap (z + (n : Int)) = y := ⟨_, rfl⟩
      by_cases hq : most < y
      · go_wp2_with fail
        go_ret
        first | exact ⟨SomeB.of _, rfl⟩ | exact SomeB.of _
      · go_wp2_with fail
        go_loopw [7] (fun kv wx => ∃ k : Nat, kv = .int .i64 (k : Int) ∧ k ≤ n ∧ wx = wr) (fun kv _ => n - (intOf kv).toNat)
        case atStart => exact ⟨0, rfl, by omega, rfl⟩
        case round =>
          obtain ⟨k, rfl, hk, rfl⟩ := hrel
          by_cases hka : k < n
          · have y0 : (k : Int) < (n : Int) := by omega
            have y1 : (0 : Int) ≤ (k : Int) := by omega
            obtain ⟨g2, o2, rfl, -, -, A7, n7, c7, A8, n8, c8, f7, f8⟩ := hrd.get (i := k) (by omega)
            by_cases h8 : (100 : Int) < (n8 : Int)
            · go_wp2_with fail
              go_ret
              first | exact ⟨SomeB.of _, rfl⟩ | exact SomeB.of _
            · by_cases h7 : (100 : Int) < (n7 : Int)
              · go_wp2_with fail
                go_ret
                first | exact ⟨SomeB.of _, rfl⟩ | exact SomeB.of _
              · go_wp2_with fail
                go_roundw
                case rel => exact ⟨k + 1, by go_num, by omega, by trivial⟩
                case measure => simp [intOf] <;> omega
          · obtain rfl : k = n := by omega
            have y0 : ¬ (k : Int) < (k : Int) := by omega
            go_wp2_with fail
            go_roundw
            case rel => exact ⟨i + 1, y, by go_num, by omega, by trivial, by trivial⟩
            case measure => simp [intOf] <;> omega
    · have x0 : ¬ (i : Int) < (l.length : Int) := by omega
      go_wp2_with fail
      go_ret
      first | exact ⟨SomeB.of _, rfl⟩ | exact SomeB.of _
end Go.Proofs.YtadnfekogmjieaaGreatDoor
