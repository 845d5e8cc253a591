/-
  The reference's opcodes: its tables, find, Known, Name, Find. (Printed by gen_opref.py.)
-/
import Derived.Test.YtmhmpobjjhbklaaGreatDoorOpsP
import Derived.Test.YtmhmpobjjhbklaaGreatDoorRw
import Derived.Deep.CutBlock
set_option linter.unusedVariables false
set_option linter.unusedSimpArgs false
namespace Go.Proofs.YtmhmpobjjhbklaaGreatDoor
open Go.RowKit

theorem at_code {F : World → Prop} {P : Program} {c : Code} {Q : Exit → Act → World → Prop} {a : Act} {Wx : World} (hf : F Wx) (h : ∀ w, F w → Code.wp P c Q a w) : Code.wp P c Q a Wx := h _ hf
theorem below_drewN (W : World) (q : Nat) : Below W.heap.size W (W.drewN q) := ⟨rfl, rfl, rfl, Nat.le_refl _, fun _ _ => rfl⟩
def enc5 (r : Opc.R) : List Value := [.int .i64 r.1, .string ⟨r.2.1.toArray⟩, .int .i64 r.2.2]
def encS (s : List UInt8) : List Value := [.string ⟨s.toArray⟩]
theorem enc5_len (r : Opc.R) : (enc5 r).length = 3 := rfl
theorem encS_len (s : List UInt8) : (encS s).length = 1 := rfl
theorem enc5_one (r : Opc.R) : ∀ u ∈ enc5 r, u.oneCell' = true := by simp [enc5, Value.oneCell']
theorem encS_one (s : List UInt8) : ∀ u ∈ encS s, u.oneCell' = true := by simp [encS, Value.oneCell']
theorem info_row5 : (Tryz.prog.info? 114).map (fun i => (i.zero, i.size, i.bytes)) = some (some (.agg #[.int .i64 0, .string ByteArray.empty, .int .i64 0]), 3, 32) := by kernel_rfl
theorem info_string : (Tryz.prog.info? 9).map (fun i => (i.zero, i.size, i.bytes)) = some (some (.string ByteArray.empty), 1, 16) := by kernel_rfl
theorem lit_own {α : Type} {enc : α → List Value} {k n : Nat} {e : TypeId} {l : List α} {cs : Array Value} (w : World) (hcs : cs.toList = l.flatMap enc) (hk : ∀ x, (enc x).length = k) (hn : l.length = n) (hm : n ≤ 1000000) :
    (w.alloc (.cells cs e)).ownsRow w.heap.size e k (.slice (some ⟨w.heap.size, 0, none⟩) n n) n (l.flatMap enc) := by
  have := World.ownsRow_lit (base := w.heap.size) (e := e) (size := k) w cs n (Nat.le_refl _) (by unfold maxLen; omega) (by rw [← Array.length_toList, hcs, flat_len hk, hn])
  rw [hcs] at this
  exact this
set_option maxHeartbeats 4000000 in
set_option maxRecDepth 100000 in
theorem rctl_any (w : World) : Calls Tryz.prog 129 #[] w fun e w' => (∃ A c, e = .returned (.slice A 23 c) ∧ w'.ownsRow w.heap.size 114 3 (.slice A 23 c) 23 (Opc.ctl.flatMap enc5)) ∧ Below w.heap.size w w' := by
  go_enter Tryz.func129, Tryz.ntmps129
  go_wp2
  go_ret
  exact ⟨⟨_, _, rfl, lit_own w (by kernel_rfl) enc5_len (by kernel_rfl) (by omega)⟩, (Below.refl _ _).alloc (Nat.le_refl _) _⟩
set_option maxHeartbeats 4000000 in
set_option maxRecDepth 100000 in
theorem racc_any (w : World) : Calls Tryz.prog 130 #[] w fun e w' => (∃ A c, e = .returned (.slice A 23 c) ∧ w'.ownsRow w.heap.size 114 3 (.slice A 23 c) 23 (Opc.acc.flatMap enc5)) ∧ Below w.heap.size w w' := by
  go_enter Tryz.func130, Tryz.ntmps130
  go_wp2
  go_ret
  exact ⟨⟨_, _, rfl, lit_own w (by kernel_rfl) enc5_len (by kernel_rfl) (by omega)⟩, (Below.refl _ _).alloc (Nat.le_refl _) _⟩
set_option maxHeartbeats 4000000 in
set_option maxRecDepth 100000 in
theorem rfin_any (w : World) : Calls Tryz.prog 134 #[] w fun e w' => (∃ A c, e = .returned (.slice A 13 c) ∧ w'.ownsRow w.heap.size 114 3 (.slice A 13 c) 13 (Opc.fin.flatMap enc5)) ∧ Below w.heap.size w w' := by
  go_enter Tryz.func134, Tryz.ntmps134
  go_wp2
  go_ret
  exact ⟨⟨_, _, rfl, lit_own w (by kernel_rfl) enc5_len (by kernel_rfl) (by omega)⟩, (Below.refl _ _).alloc (Nat.le_refl _) _⟩
set_option maxHeartbeats 4000000 in
set_option maxRecDepth 100000 in
theorem rcmps_any (w : World) : Calls Tryz.prog 132 #[] w fun e w' => (∃ A c, e = .returned (.slice A 11 c) ∧ RdS w' w'.heap.size A 1 encS Opc.cmps) ∧ Below w.heap.size w w' := by
  go_enter Tryz.func132, Tryz.ntmps132
  go_wp2
  go_ret
  exact ⟨⟨_, _, rfl, block_rds encS_len (by kernel_rfl) (heap_alloc_new w _)⟩, (Below.refl _ _).alloc (Nat.le_refl _) _⟩
set_option maxHeartbeats 4000000 in
set_option maxRecDepth 100000 in
theorem rtwos_any (w : World) : Calls Tryz.prog 133 #[] w fun e w' => (∃ A c, e = .returned (.slice A 18 c) ∧ RdS w' w'.heap.size A 1 encS Opc.twos) ∧ Below w.heap.size w w' := by
  go_enter Tryz.func133, Tryz.ntmps133
  go_wp2
  go_ret
  exact ⟨⟨_, _, rfl, block_rds encS_len (by kernel_rfl) (heap_alloc_new w _)⟩, (Below.refl _ _).alloc (Nat.le_refl _) _⟩
end Go.Proofs.YtmhmpobjjhbklaaGreatDoor
