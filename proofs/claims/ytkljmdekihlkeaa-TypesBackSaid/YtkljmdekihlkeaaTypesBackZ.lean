/-
  The walk of the law TypesBack: the integer is a reference type.
-/
import Derived.Test.YtkljmdekihlkeaaTypesFuncs
import Derived.Test.YtkljmdekihlkeaaTypesBackP
import Derived.Deep.RegionHeld3
set_option linter.unusedVariables false
namespace Go.Proofs.Ytkljmdekihlkeaa
open Go.RowKit

set_option maxHeartbeats 2000000 in
set_option maxRecDepth 100000 in
theorem back_Z1 (t : Int) (A1 A2 B1 B2 : Option Addr) (c1 c2 d1 d2 : Nat) (ps rs qs ss : List Int) (w : World) (h0 : RdI w w.heap.size A1 ps) (h1 : RdI w w.heap.size A2 rs) (h2 : RdI w w.heap.size B1 qs) (h3 : RdI w w.heap.size B2 ss) (l1 : ps.length ≤ 100) (l2 : rs.length ≤ 100) (l3 : qs.length ≤ 100) (l4 : ss.length ≤ 100) (hv : Ty.val t = true) (hn : Ty.num t = false) (hr : Ty.ref t = true) (ra : (Ty.right ps && Ty.right rs) = false) :
    Calls Try.prog 7 #[.int .i64 t, .agg #[.slice A1 ps.length c1, .slice A2 rs.length c2], .agg #[.slice B1 qs.length d1, .slice B2 ss.length d2]] w fun e w' => e = .returned (.bool true) ∧ Below w.heap.size w w' := by
  have k1 : (decide (ps.length ≤ 100) && decide (rs.length ≤ 100)) = true := by simp; omega
  have k2 : (decide (qs.length ≤ 100) && decide (ss.length ≤ 100)) = true := by simp; omega
  have F1 : Hid (∀ W : World, Calls Try.prog 17 #[.agg #[.slice A1 ps.length c1, .slice A2 rs.length c2]] W fun e w' => e = .returned (.bool true) ∧ Below W.heap.size W w') := fun W => by have := few_any A1 A2 c1 c2 ps.length rs.length W; rw [k1] at this; exact this
  have F2 : Hid (∀ W : World, Calls Try.prog 17 #[.agg #[.slice B1 qs.length d1, .slice B2 ss.length d2]] W fun e w' => e = .returned (.bool true) ∧ Below W.heap.size W w') := fun W => by have := few_any B1 B2 d1 d2 qs.length ss.length W; rw [k2] at this; exact this
  have V0 : Hid (∀ W : World, Calls Try.prog 32 #[.int .i64 t] W fun e w' => e = .returned (.bool true) ∧ W = w') := fun W => by have := val_any t W; rw [hv] at this; exact this
  obtain ⟨bt, hbt⟩ : ∃ x, Ty.byte t = x := ⟨_, rfl⟩
  obtain ⟨nt, hnt⟩ : ∃ x, Ty.name t = x := ⟨_, rfl⟩
  have V1 : Hid (∀ W : World, Calls Try.prog 26 #[.int .i64 t] W fun e w' => e = .returned (.tuple #[.int .u8 bt, .bool true]) ∧ W = w') := fun W => by have := byte_any t W; rw [hv, hbt] at this; exact this
  have V2 : Hid (∀ W : World, Calls Try.prog 30 #[.int .u8 bt] W fun e w' => e = .returned (.tuple #[.int .i64 t, .bool true]) ∧ W = w') := fun W => by have := ofByte_any bt W; rw [← hbt, Ty.ofByte_byte hv, hbt] at this; exact this
  have V3 : Hid (∀ W : World, Calls Try.prog 38 #[.int .i64 t] W fun e w' => e = .returned (.string ⟨nt.toArray⟩) ∧ W = w') := fun W => by have := name_any t W; rw [hnt] at this; exact this
  have V4 : Hid (∀ W : World, Calls Try.prog 28 #[.string ⟨nt.toArray⟩] W fun e w' => e = .returned (.tuple #[.int .i64 t, .bool true]) ∧ W = w') := fun W => by have := find_any nt W; rw [← hnt, Ty.find_name hv, hnt] at this; exact this
  have V5 : Hid (∀ W : World, Calls Try.prog 34 #[.int .i64 t] W fun e w' => e = .returned (.bool false) ∧ W = w') := fun W => by have := num_any t W; rw [hn] at this; exact this
  have V6 : Hid (∀ W : World, Calls Try.prog 36 #[.int .i64 t] W fun e w' => e = .returned (.bool true) ∧ W = w') := fun W => by have := ref_any t W; rw [hr] at this; exact this
  have C1 : Hid (∀ W : World, Im2 w W A1 A2 B1 B2 c1 c2 d1 d2 ps rs qs ss → Calls Try.prog 22 #[.agg #[.slice A1 ps.length c1, .slice A2 rs.length c2]] W fun e w' => e = .returned (.bool false) ∧ Below W.heap.size W w') := fun W I => by have s := I.bel.size; have := right_any A1 A2 c1 c2 ps rs W (I.r0.more s) (I.r1.more s) (by omega) (by omega); rw [ra] at this; exact this
  clear k1 k2 ra hv hn hr hbt hnt
  have I0 := Im2.two w A1 A2 B1 B2 c1 c2 d1 d2 ps rs qs ss h0 h1 h2 h3
  go_enter Try.func7, Try.ntmps7
  go_wp2_with fail
  generalize (w.alloc (.cells #[.slice A1 ps.length c1, .slice A2 rs.length c2] 41)).alloc (.cells #[.slice B1 qs.length d1, .slice B2 ss.length d2] 41) = W0 at I0 ⊢
  obtain ⟨e0, e1, e2, e3, r0, r1, r2, r3, sz, bel⟩ := id I0
  go_wp2_with (first
    | (go_at_call 17; (with_reducible refine (F1.out _).mono ?_); rintro e w1 ⟨rfl, hb1⟩; have I1 := I0.step hb1; clear e0 e1 e2 e3 r0 r1 r2 r3 sz bel; obtain ⟨e0, e1, e2, e3, r0, r1, r2, r3, sz, bel⟩ := id I1; clear hb1 I0; clear F1)
    | (go_at_call 17; (with_reducible refine (F2.out _).mono ?_); rintro e w2 ⟨rfl, hb2⟩; have I2 := I1.step hb2; clear e0 e1 e2 e3 r0 r1 r2 r3 sz bel; obtain ⟨e0, e1, e2, e3, r0, r1, r2, r3, sz, bel⟩ := id I2; clear hb2 I1; clear F2)
    | (go_at_call 32; (with_reducible refine (V0.out _).mono ?_); rintro e w9 ⟨rfl, rfl⟩)
    | (go_at_call 26; (with_reducible refine (V1.out _).mono ?_); rintro e w9 ⟨rfl, rfl⟩)
    | (go_at_call 30; (with_reducible refine (V2.out _).mono ?_); rintro e w9 ⟨rfl, rfl⟩)
    | (go_at_call 38; (with_reducible refine (V3.out _).mono ?_); rintro e w9 ⟨rfl, rfl⟩)
    | (go_at_call 28; (with_reducible refine (V4.out _).mono ?_); rintro e w9 ⟨rfl, rfl⟩)
    | (go_at_call 34; (with_reducible refine (V5.out _).mono ?_); rintro e w9 ⟨rfl, rfl⟩)
    | (go_at_call 36; (with_reducible refine (V6.out _).mono ?_); rintro e w9 ⟨rfl, rfl⟩))
  refine wp_region_held_drew (S := fun w' => w'.cell? ⟨w.heap.size, 0, none⟩ = some (.slice A1 ps.length c1) ∧ w'.cell? ⟨w.heap.size, 1, none⟩ = some (.slice A2 rs.length c2) ∧ w'.cell? ⟨w.heap.size + 1, 0, none⟩ = some (.slice B1 qs.length d1) ∧ w'.cell? ⟨w.heap.size + 1, 1, none⟩ = some (.slice B2 ss.length d2)) (by kernel_rfl) ?_ (fun hHeld0 => ?_)
  · first | assumption | go_keep
  refine wpAnyH_take (i := 0) (oi := { dst := some 69, op := Go.Op.load 41 (Go.Operand.tmp 4), type := 41, pos := "law.go:70", after := #[], guard := none }) (v := ?v0) rfl (by kernel_rfl) (by kernel_rfl) (by kernel_rfl) (fun _ _ _ h => h) (Or.inl ⟨by rfl, ?hy0⟩) (by assumption) ?rest0
  case hy0 => (intro w hSw; (try dsimp only at hSw); go_simp; (try (with_reducible rfl)))
  (try simp only [Act.put, List.setIfInBounds_toArray, List.set_cons_succ, List.set_cons_zero])
  refine wpAnyH_ready (rs := [1]) (by kernel_rfl) (by simp) ?_
  refine AllReadyH.cons (o := { dst := some 70, op := Go.Op.call { callee := Go.Callee.value (Go.Operand.func 22), args := #[Go.Operand.tmp 69], argTypes := #[41] }, type := 4, pos := "law.go:70", after := #[{ on := 0, ground := Go.Ground.data }], guard := none }) rfl (fun K hK => ?_) AllReadyH.nil
  go_simp
  (go_at_call 22; (with_reducible refine (C1.out _ I2.drew).mono ?_); rintro e w3 ⟨rfl, hb3⟩; have I3 := I2.drew.step hb3; clear e0 e1 e2 e3 r0 r1 r2 r3 sz bel; obtain ⟨e0, e1, e2, e3, r0, r1, r2, r3, sz, bel⟩ := id I3; clear hb3 I2; clear C1)
  (try dsimp only)
  refine hK.out _ _ ?_ (fun hHeld1 => ?_)
  · (try dsimp only); first | assumption | go_keep
  clear hK K hHeld0
  (try simp only [Act.put, List.setIfInBounds_toArray, List.set_cons_succ, List.set_cons_zero])
  refine wpAnyH_take (i := 2) (oi := { dst := some 71, op := Go.Op.unOp Go.UnOp.not 4 (Go.Operand.tmp 70), type := 4, pos := "law.go:70", after := #[{ on := 1, ground := Go.Ground.data }], guard := none }) (v := ?v2) rfl (by kernel_rfl) (by kernel_rfl) (by kernel_rfl) (fun _ _ _ h => h) (Or.inl ⟨by rfl, ?hy2⟩) (by assumption) ?rest2
  case hy2 => (intro w hSw; (try dsimp only at hSw); go_simp; (try (with_reducible rfl)))
  (try simp only [Act.put, List.setIfInBounds_toArray, List.set_cons_succ, List.set_cons_zero])
  refine wpAnyH_take (i := 3) (oi := { dst := some 72, op := Go.Op.move (Go.Operand.tmp 71), type := 4, pos := "law.go:70", after := #[{ on := 2, ground := Go.Ground.data }, { on := 1, ground := Go.Ground.chain }], guard := none }) (v := ?v3) rfl (by kernel_rfl) (by kernel_rfl) (by kernel_rfl) (fun _ _ _ h => h) (Or.inl ⟨by rfl, ?hy3⟩) (by assumption) ?rest3
  case hy3 => (intro w hSw; (try dsimp only at hSw); go_simp; (try (with_reducible rfl)))
  (try simp only [Act.put, List.setIfInBounds_toArray, List.set_cons_succ, List.set_cons_zero])
  refine wpAnyH_take (i := 4) (oi := { dst := some 73, op := Go.Op.load 41 (Go.Operand.tmp 5), type := 41, pos := "law.go:70", after := #[{ on := 3, ground := Go.Ground.guard }], guard := some (3, false) }) (v := undef) rfl (by kernel_rfl) (by kernel_rfl) (by kernel_rfl) (fun _ _ _ h => h) (Or.inr ⟨by rfl, rfl⟩) (by assumption) ?rest4
  (try simp only [Act.put, List.setIfInBounds_toArray, List.set_cons_succ, List.set_cons_zero])
  refine wpAnyH_take (i := 5) (oi := { dst := some 74, op := Go.Op.call { callee := Go.Callee.value (Go.Operand.func 22), args := #[Go.Operand.tmp 73], argTypes := #[41] }, type := 4, pos := "law.go:70", after := #[{ on := 4, ground := Go.Ground.data }, { on := 3, ground := Go.Ground.chain }, { on := 3, ground := Go.Ground.guard }], guard := some (3, false) }) (v := undef) rfl (by kernel_rfl) (by kernel_rfl) (by kernel_rfl) (fun _ _ _ h => h) (Or.inr ⟨by rfl, rfl⟩) (by assumption) ?rest5
  (try simp only [Act.put, List.setIfInBounds_toArray, List.set_cons_succ, List.set_cons_zero])
  refine wpAnyH_take (i := 6) (oi := { dst := some 75, op := Go.Op.unOp Go.UnOp.not 4 (Go.Operand.tmp 74), type := 4, pos := "law.go:70", after := #[{ on := 5, ground := Go.Ground.data }, { on := 3, ground := Go.Ground.guard }], guard := some (3, false) }) (v := undef) rfl (by kernel_rfl) (by kernel_rfl) (by kernel_rfl) (fun _ _ _ h => h) (Or.inr ⟨by rfl, rfl⟩) (by assumption) ?rest6
  (try simp only [Act.put, List.setIfInBounds_toArray, List.set_cons_succ, List.set_cons_zero])
  refine wpAnyH_take (i := 7) (oi := { dst := some 76, op := Go.Op.pick (Go.Operand.tmp 72) (Go.Operand.const (Go.Value.bool true)) (Go.Operand.tmp 75), type := 4, pos := "law.go:70", after := #[{ on := 3, ground := Go.Ground.data }, { on := 6, ground := Go.Ground.data }], guard := none }) (v := ?v7) rfl (by kernel_rfl) (by kernel_rfl) (by kernel_rfl) (fun _ _ _ h => h) (Or.inl ⟨by rfl, ?hy7⟩) (by assumption) ?rest7
  case hy7 => (intro w hSw; (try dsimp only at hSw); go_simp; (try (with_reducible rfl)))
  (try simp only [Act.put, List.setIfInBounds_toArray, List.set_cons_succ, List.set_cons_zero])
  refine wpAnyH_take (i := 8) (oi := { dst := some 77, op := Go.Op.move (Go.Operand.tmp 76), type := 4, pos := "law.go:70", after := #[{ on := 7, ground := Go.Ground.data }, { on := 5, ground := Go.Ground.chain }], guard := none }) (v := ?v8) rfl (by kernel_rfl) (by kernel_rfl) (by kernel_rfl) (fun _ _ _ h => h) (Or.inl ⟨by rfl, ?hy8⟩) (by assumption) ?rest8
  case hy8 => (intro w hSw; (try dsimp only at hSw); go_simp; (try (with_reducible rfl)))
  (try simp only [Act.put, List.setIfInBounds_toArray, List.set_cons_succ, List.set_cons_zero])
  refine wpAnyH_take (i := 9) (oi := { dst := some 78, op := Go.Op.load 41 (Go.Operand.tmp 4), type := 41, pos := "law.go:70", after := #[{ on := 8, ground := Go.Ground.guard }], guard := some (8, false) }) (v := undef) rfl (by kernel_rfl) (by kernel_rfl) (by kernel_rfl) (fun _ _ _ h => h) (Or.inr ⟨by rfl, rfl⟩) (by assumption) ?rest9
  (try simp only [Act.put, List.setIfInBounds_toArray, List.set_cons_succ, List.set_cons_zero])
  refine wpAnyH_take (i := 10) (oi := { dst := some 79, op := Go.Op.call { callee := Go.Callee.value (Go.Operand.func 24), args := #[Go.Operand.tmp 78], argTypes := #[41] }, type := 9, pos := "law.go:70", after := #[{ on := 9, ground := Go.Ground.data }, { on := 8, ground := Go.Ground.chain }, { on := 8, ground := Go.Ground.guard }], guard := some (8, false) }) (v := undef) rfl (by kernel_rfl) (by kernel_rfl) (by kernel_rfl) (fun _ _ _ h => h) (Or.inr ⟨by rfl, rfl⟩) (by assumption) ?rest10
  (try simp only [Act.put, List.setIfInBounds_toArray, List.set_cons_succ, List.set_cons_zero])
  refine wpAnyH_take (i := 11) (oi := { dst := some 80, op := Go.Op.load 41 (Go.Operand.tmp 5), type := 41, pos := "law.go:70", after := #[{ on := 8, ground := Go.Ground.guard }], guard := some (8, false) }) (v := undef) rfl (by kernel_rfl) (by kernel_rfl) (by kernel_rfl) (fun _ _ _ h => h) (Or.inr ⟨by rfl, rfl⟩) (by assumption) ?rest11
  (try simp only [Act.put, List.setIfInBounds_toArray, List.set_cons_succ, List.set_cons_zero])
  refine wpAnyH_take (i := 12) (oi := { dst := some 81, op := Go.Op.call { callee := Go.Callee.value (Go.Operand.func 24), args := #[Go.Operand.tmp 80], argTypes := #[41] }, type := 9, pos := "law.go:70", after := #[{ on := 11, ground := Go.Ground.data }, { on := 10, ground := Go.Ground.chain }, { on := 8, ground := Go.Ground.guard }], guard := some (8, false) }) (v := undef) rfl (by kernel_rfl) (by kernel_rfl) (by kernel_rfl) (fun _ _ _ h => h) (Or.inr ⟨by rfl, rfl⟩) (by assumption) ?rest12
  (try simp only [Act.put, List.setIfInBounds_toArray, List.set_cons_succ, List.set_cons_zero])
  refine wpAnyH_take (i := 13) (oi := { dst := some 82, op := Go.Op.binOp Go.BinOp.eql 9 (Go.Operand.tmp 79) (Go.Operand.tmp 81) 9, type := 4, pos := "law.go:70", after := #[{ on := 10, ground := Go.Ground.data }, { on := 12, ground := Go.Ground.data }, { on := 8, ground := Go.Ground.guard }], guard := some (8, false) }) (v := undef) rfl (by kernel_rfl) (by kernel_rfl) (by kernel_rfl) (fun _ _ _ h => h) (Or.inr ⟨by rfl, rfl⟩) (by assumption) ?rest13
  (try simp only [Act.put, List.setIfInBounds_toArray, List.set_cons_succ, List.set_cons_zero])
  refine wpAnyH_take (i := 14) (oi := { dst := some 83, op := Go.Op.load 41 (Go.Operand.tmp 4), type := 41, pos := "law.go:70", after := #[{ on := 8, ground := Go.Ground.guard }], guard := some (8, false) }) (v := undef) rfl (by kernel_rfl) (by kernel_rfl) (by kernel_rfl) (fun _ _ _ h => h) (Or.inr ⟨by rfl, rfl⟩) (by assumption) ?rest14
  (try simp only [Act.put, List.setIfInBounds_toArray, List.set_cons_succ, List.set_cons_zero])
  refine wpAnyH_take (i := 15) (oi := { dst := some 84, op := Go.Op.load 41 (Go.Operand.tmp 5), type := 41, pos := "law.go:70", after := #[{ on := 8, ground := Go.Ground.guard }], guard := some (8, false) }) (v := undef) rfl (by kernel_rfl) (by kernel_rfl) (by kernel_rfl) (fun _ _ _ h => h) (Or.inr ⟨by rfl, rfl⟩) (by assumption) ?rest15
  (try simp only [Act.put, List.setIfInBounds_toArray, List.set_cons_succ, List.set_cons_zero])
  refine wpAnyH_take (i := 16) (oi := { dst := some 85, op := Go.Op.call { callee := Go.Callee.value (Go.Operand.func 18), args := #[Go.Operand.tmp 83, Go.Operand.tmp 84], argTypes := #[41, 41] }, type := 4, pos := "law.go:70", after := #[{ on := 14, ground := Go.Ground.data }, { on := 15, ground := Go.Ground.data }, { on := 12, ground := Go.Ground.chain }, { on := 8, ground := Go.Ground.guard }], guard := some (8, false) }) (v := undef) rfl (by kernel_rfl) (by kernel_rfl) (by kernel_rfl) (fun _ _ _ h => h) (Or.inr ⟨by rfl, rfl⟩) (by assumption) ?rest16
  (try simp only [Act.put, List.setIfInBounds_toArray, List.set_cons_succ, List.set_cons_zero])
  refine wpAnyH_take (i := 17) (oi := { dst := some 86, op := Go.Op.binOp Go.BinOp.eql 4 (Go.Operand.tmp 82) (Go.Operand.tmp 85) 4, type := 4, pos := "law.go:70", after := #[{ on := 13, ground := Go.Ground.data }, { on := 16, ground := Go.Ground.data }, { on := 8, ground := Go.Ground.guard }], guard := some (8, false) }) (v := undef) rfl (by kernel_rfl) (by kernel_rfl) (by kernel_rfl) (fun _ _ _ h => h) (Or.inr ⟨by rfl, rfl⟩) (by assumption) ?rest17
  (try simp only [Act.put, List.setIfInBounds_toArray, List.set_cons_succ, List.set_cons_zero])
  refine wpAnyH_take (i := 18) (oi := { dst := some 87, op := Go.Op.pick (Go.Operand.tmp 77) (Go.Operand.const (Go.Value.bool true)) (Go.Operand.tmp 86), type := 4, pos := "law.go:70", after := #[{ on := 8, ground := Go.Ground.data }, { on := 17, ground := Go.Ground.data }], guard := none }) (v := ?v18) rfl (by kernel_rfl) (by kernel_rfl) (by kernel_rfl) (fun _ _ _ h => h) (Or.inl ⟨by rfl, ?hy18⟩) (by assumption) ?rest18
  case hy18 => (intro w hSw; (try dsimp only at hSw); go_simp; (try (with_reducible rfl)))
  (try simp only [Act.put, List.setIfInBounds_toArray, List.set_cons_succ, List.set_cons_zero])
  refine wpAnyH_take (i := 19) (oi := { dst := some 88, op := Go.Op.move (Go.Operand.tmp 87), type := 4, pos := "law.go:70", after := #[{ on := 18, ground := Go.Ground.data }, { on := 16, ground := Go.Ground.chain }], guard := none }) (v := ?v19) rfl (by kernel_rfl) (by kernel_rfl) (by kernel_rfl) (fun _ _ _ h => h) (Or.inl ⟨by rfl, ?hy19⟩) (by assumption) ?rest19
  case hy19 => (intro w hSw; (try dsimp only at hSw); go_simp; (try (with_reducible rfl)))
  (try simp only [Act.put, List.setIfInBounds_toArray, List.set_cons_succ, List.set_cons_zero])
  refine wpAnyH_ready (rs := [20]) (by kernel_rfl) (by simp) ?_
  refine AllReadyH.cons (o := { dst := some 89, op := Go.Op.call { callee := Go.Callee.value (Go.Operand.func 9), args := #[], argTypes := #[] }, type := 4, pos := "law.go:70", after := #[{ on := 19, ground := Go.Ground.chain }, { on := 19, ground := Go.Ground.guard }], guard := some (19, true) }) rfl (fun K hK => ?_) AllReadyH.nil
  go_simp
  (go_at_call 9; refine (alive_any _).mono ?_; rintro e w4 ⟨rfl, hb4⟩; have I4 := I3.step hb4; clear e0 e1 e2 e3 r0 r1 r2 r3 sz bel; obtain ⟨e0, e1, e2, e3, r0, r1, r2, r3, sz, bel⟩ := id I4; clear hb4 I3)
  (try dsimp only)
  refine hK.out _ _ ?_ (fun hHeld2 => ?_)
  · (try dsimp only); first | assumption | go_keep
  clear hK K hHeld1
  (try simp only [Act.put, List.setIfInBounds_toArray, List.set_cons_succ, List.set_cons_zero])
  refine wpAnyH_take (i := 21) (oi := { dst := some 90, op := Go.Op.pick (Go.Operand.tmp 88) (Go.Operand.tmp 89) (Go.Operand.const (Go.Value.bool false)), type := 4, pos := "law.go:70", after := #[{ on := 19, ground := Go.Ground.data }, { on := 20, ground := Go.Ground.data }], guard := none }) (v := ?v21) rfl (by kernel_rfl) (by kernel_rfl) (by kernel_rfl) (fun _ _ _ h => h) (Or.inl ⟨by rfl, ?hy21⟩) (by assumption) ?rest21
  case hy21 => (intro w hSw; (try dsimp only at hSw); go_simp; (try (with_reducible rfl)))
  (try simp only [Act.put, List.setIfInBounds_toArray, List.set_cons_succ, List.set_cons_zero])
  refine wpAnyH_take (i := 22) (oi := { dst := some 6, op := Go.Op.assign (Go.Operand.tmp 90), type := 4, pos := "law.go:70", after := #[{ on := 21, ground := Go.Ground.data }, { on := 20, ground := Go.Ground.chain }, { on := 0, ground := Go.Ground.phase }, { on := 1, ground := Go.Ground.phase }, { on := 2, ground := Go.Ground.phase }, { on := 3, ground := Go.Ground.phase }, { on := 4, ground := Go.Ground.phase }, { on := 5, ground := Go.Ground.phase }, { on := 6, ground := Go.Ground.phase }, { on := 7, ground := Go.Ground.phase }, { on := 8, ground := Go.Ground.phase }, { on := 9, ground := Go.Ground.phase }, { on := 10, ground := Go.Ground.phase }, { on := 11, ground := Go.Ground.phase }, { on := 12, ground := Go.Ground.phase }, { on := 13, ground := Go.Ground.phase }, { on := 14, ground := Go.Ground.phase }, { on := 15, ground := Go.Ground.phase }, { on := 16, ground := Go.Ground.phase }, { on := 17, ground := Go.Ground.phase }, { on := 18, ground := Go.Ground.phase }, { on := 19, ground := Go.Ground.phase }, { on := 20, ground := Go.Ground.phase }, { on := 21, ground := Go.Ground.phase }], guard := none }) (v := ?v22) rfl (by kernel_rfl) (by kernel_rfl) (by kernel_rfl) (fun _ _ _ h => h) (Or.inl ⟨by rfl, ?hy22⟩) (by assumption) ?rest22
  case hy22 => (intro w hSw; (try dsimp only at hSw); go_simp; (try (with_reducible rfl)))
  (try simp only [Act.put, List.setIfInBounds_toArray, List.set_cons_succ, List.set_cons_zero])
  refine wpAnyH_done (by kernel_rfl) ?_ _
  go_wp2
  go_ret
  exact ⟨rfl, bel⟩

set_option maxHeartbeats 2000000 in
set_option maxRecDepth 100000 in
theorem back_Z2 (t : Int) (A1 A2 B1 B2 : Option Addr) (c1 c2 d1 d2 : Nat) (ps rs qs ss : List Int) (w : World) (h0 : RdI w w.heap.size A1 ps) (h1 : RdI w w.heap.size A2 rs) (h2 : RdI w w.heap.size B1 qs) (h3 : RdI w w.heap.size B2 ss) (l1 : ps.length ≤ 100) (l2 : rs.length ≤ 100) (l3 : qs.length ≤ 100) (l4 : ss.length ≤ 100) (hv : Ty.val t = true) (hn : Ty.num t = false) (hr : Ty.ref t = true) (ra : (Ty.right ps && Ty.right rs) = true) (rb_ : (Ty.right qs && Ty.right ss) = false) :
    Calls Try.prog 7 #[.int .i64 t, .agg #[.slice A1 ps.length c1, .slice A2 rs.length c2], .agg #[.slice B1 qs.length d1, .slice B2 ss.length d2]] w fun e w' => e = .returned (.bool true) ∧ Below w.heap.size w w' := by
  have k1 : (decide (ps.length ≤ 100) && decide (rs.length ≤ 100)) = true := by simp; omega
  have k2 : (decide (qs.length ≤ 100) && decide (ss.length ≤ 100)) = true := by simp; omega
  have F1 : Hid (∀ W : World, Calls Try.prog 17 #[.agg #[.slice A1 ps.length c1, .slice A2 rs.length c2]] W fun e w' => e = .returned (.bool true) ∧ Below W.heap.size W w') := fun W => by have := few_any A1 A2 c1 c2 ps.length rs.length W; rw [k1] at this; exact this
  have F2 : Hid (∀ W : World, Calls Try.prog 17 #[.agg #[.slice B1 qs.length d1, .slice B2 ss.length d2]] W fun e w' => e = .returned (.bool true) ∧ Below W.heap.size W w') := fun W => by have := few_any B1 B2 d1 d2 qs.length ss.length W; rw [k2] at this; exact this
  have V0 : Hid (∀ W : World, Calls Try.prog 32 #[.int .i64 t] W fun e w' => e = .returned (.bool true) ∧ W = w') := fun W => by have := val_any t W; rw [hv] at this; exact this
  obtain ⟨bt, hbt⟩ : ∃ x, Ty.byte t = x := ⟨_, rfl⟩
  obtain ⟨nt, hnt⟩ : ∃ x, Ty.name t = x := ⟨_, rfl⟩
  have V1 : Hid (∀ W : World, Calls Try.prog 26 #[.int .i64 t] W fun e w' => e = .returned (.tuple #[.int .u8 bt, .bool true]) ∧ W = w') := fun W => by have := byte_any t W; rw [hv, hbt] at this; exact this
  have V2 : Hid (∀ W : World, Calls Try.prog 30 #[.int .u8 bt] W fun e w' => e = .returned (.tuple #[.int .i64 t, .bool true]) ∧ W = w') := fun W => by have := ofByte_any bt W; rw [← hbt, Ty.ofByte_byte hv, hbt] at this; exact this
  have V3 : Hid (∀ W : World, Calls Try.prog 38 #[.int .i64 t] W fun e w' => e = .returned (.string ⟨nt.toArray⟩) ∧ W = w') := fun W => by have := name_any t W; rw [hnt] at this; exact this
  have V4 : Hid (∀ W : World, Calls Try.prog 28 #[.string ⟨nt.toArray⟩] W fun e w' => e = .returned (.tuple #[.int .i64 t, .bool true]) ∧ W = w') := fun W => by have := find_any nt W; rw [← hnt, Ty.find_name hv, hnt] at this; exact this
  have V5 : Hid (∀ W : World, Calls Try.prog 34 #[.int .i64 t] W fun e w' => e = .returned (.bool false) ∧ W = w') := fun W => by have := num_any t W; rw [hn] at this; exact this
  have V6 : Hid (∀ W : World, Calls Try.prog 36 #[.int .i64 t] W fun e w' => e = .returned (.bool true) ∧ W = w') := fun W => by have := ref_any t W; rw [hr] at this; exact this
  have C1 : Hid (∀ W : World, Im2 w W A1 A2 B1 B2 c1 c2 d1 d2 ps rs qs ss → Calls Try.prog 22 #[.agg #[.slice A1 ps.length c1, .slice A2 rs.length c2]] W fun e w' => e = .returned (.bool true) ∧ Below W.heap.size W w') := fun W I => by have s := I.bel.size; have := right_any A1 A2 c1 c2 ps rs W (I.r0.more s) (I.r1.more s) (by omega) (by omega); rw [ra] at this; exact this
  have C2 : Hid (∀ W : World, Im2 w W A1 A2 B1 B2 c1 c2 d1 d2 ps rs qs ss → Calls Try.prog 22 #[.agg #[.slice B1 qs.length d1, .slice B2 ss.length d2]] W fun e w' => e = .returned (.bool false) ∧ Below W.heap.size W w') := fun W I => by have s := I.bel.size; have := right_any B1 B2 d1 d2 qs ss W (I.r2.more s) (I.r3.more s) (by omega) (by omega); rw [rb_] at this; exact this
  clear k1 k2 ra hv hn hr hbt hnt rb_
  have I0 := Im2.two w A1 A2 B1 B2 c1 c2 d1 d2 ps rs qs ss h0 h1 h2 h3
  go_enter Try.func7, Try.ntmps7
  go_wp2_with fail
  generalize (w.alloc (.cells #[.slice A1 ps.length c1, .slice A2 rs.length c2] 41)).alloc (.cells #[.slice B1 qs.length d1, .slice B2 ss.length d2] 41) = W0 at I0 ⊢
  obtain ⟨e0, e1, e2, e3, r0, r1, r2, r3, sz, bel⟩ := id I0
  go_wp2_with (first
    | (go_at_call 17; (with_reducible refine (F1.out _).mono ?_); rintro e w1 ⟨rfl, hb1⟩; have I1 := I0.step hb1; clear e0 e1 e2 e3 r0 r1 r2 r3 sz bel; obtain ⟨e0, e1, e2, e3, r0, r1, r2, r3, sz, bel⟩ := id I1; clear hb1 I0; clear F1)
    | (go_at_call 17; (with_reducible refine (F2.out _).mono ?_); rintro e w2 ⟨rfl, hb2⟩; have I2 := I1.step hb2; clear e0 e1 e2 e3 r0 r1 r2 r3 sz bel; obtain ⟨e0, e1, e2, e3, r0, r1, r2, r3, sz, bel⟩ := id I2; clear hb2 I1; clear F2)
    | (go_at_call 32; (with_reducible refine (V0.out _).mono ?_); rintro e w9 ⟨rfl, rfl⟩)
    | (go_at_call 26; (with_reducible refine (V1.out _).mono ?_); rintro e w9 ⟨rfl, rfl⟩)
    | (go_at_call 30; (with_reducible refine (V2.out _).mono ?_); rintro e w9 ⟨rfl, rfl⟩)
    | (go_at_call 38; (with_reducible refine (V3.out _).mono ?_); rintro e w9 ⟨rfl, rfl⟩)
    | (go_at_call 28; (with_reducible refine (V4.out _).mono ?_); rintro e w9 ⟨rfl, rfl⟩)
    | (go_at_call 34; (with_reducible refine (V5.out _).mono ?_); rintro e w9 ⟨rfl, rfl⟩)
    | (go_at_call 36; (with_reducible refine (V6.out _).mono ?_); rintro e w9 ⟨rfl, rfl⟩))
  refine wp_region_held_drew (S := fun w' => w'.cell? ⟨w.heap.size, 0, none⟩ = some (.slice A1 ps.length c1) ∧ w'.cell? ⟨w.heap.size, 1, none⟩ = some (.slice A2 rs.length c2) ∧ w'.cell? ⟨w.heap.size + 1, 0, none⟩ = some (.slice B1 qs.length d1) ∧ w'.cell? ⟨w.heap.size + 1, 1, none⟩ = some (.slice B2 ss.length d2)) (by kernel_rfl) ?_ (fun hHeld0 => ?_)
  · first | assumption | go_keep
  refine wpAnyH_take (i := 0) (oi := { dst := some 69, op := Go.Op.load 41 (Go.Operand.tmp 4), type := 41, pos := "law.go:70", after := #[], guard := none }) (v := ?v0) rfl (by kernel_rfl) (by kernel_rfl) (by kernel_rfl) (fun _ _ _ h => h) (Or.inl ⟨by rfl, ?hy0⟩) (by assumption) ?rest0
  case hy0 => (intro w hSw; (try dsimp only at hSw); go_simp; (try (with_reducible rfl)))
  (try simp only [Act.put, List.setIfInBounds_toArray, List.set_cons_succ, List.set_cons_zero])
  refine wpAnyH_ready (rs := [1]) (by kernel_rfl) (by simp) ?_
  refine AllReadyH.cons (o := { dst := some 70, op := Go.Op.call { callee := Go.Callee.value (Go.Operand.func 22), args := #[Go.Operand.tmp 69], argTypes := #[41] }, type := 4, pos := "law.go:70", after := #[{ on := 0, ground := Go.Ground.data }], guard := none }) rfl (fun K hK => ?_) AllReadyH.nil
  go_simp
  (go_at_call 22; (with_reducible refine (C1.out _ I2.drew).mono ?_); rintro e w3 ⟨rfl, hb3⟩; have I3 := I2.drew.step hb3; clear e0 e1 e2 e3 r0 r1 r2 r3 sz bel; obtain ⟨e0, e1, e2, e3, r0, r1, r2, r3, sz, bel⟩ := id I3; clear hb3 I2; clear C1)
  (try dsimp only)
  refine hK.out _ _ ?_ (fun hHeld1 => ?_)
  · (try dsimp only); first | assumption | go_keep
  clear hK K hHeld0
  (try simp only [Act.put, List.setIfInBounds_toArray, List.set_cons_succ, List.set_cons_zero])
  refine wpAnyH_take (i := 2) (oi := { dst := some 71, op := Go.Op.unOp Go.UnOp.not 4 (Go.Operand.tmp 70), type := 4, pos := "law.go:70", after := #[{ on := 1, ground := Go.Ground.data }], guard := none }) (v := ?v2) rfl (by kernel_rfl) (by kernel_rfl) (by kernel_rfl) (fun _ _ _ h => h) (Or.inl ⟨by rfl, ?hy2⟩) (by assumption) ?rest2
  case hy2 => (intro w hSw; (try dsimp only at hSw); go_simp; (try (with_reducible rfl)))
  (try simp only [Act.put, List.setIfInBounds_toArray, List.set_cons_succ, List.set_cons_zero])
  refine wpAnyH_take (i := 3) (oi := { dst := some 72, op := Go.Op.move (Go.Operand.tmp 71), type := 4, pos := "law.go:70", after := #[{ on := 2, ground := Go.Ground.data }, { on := 1, ground := Go.Ground.chain }], guard := none }) (v := ?v3) rfl (by kernel_rfl) (by kernel_rfl) (by kernel_rfl) (fun _ _ _ h => h) (Or.inl ⟨by rfl, ?hy3⟩) (by assumption) ?rest3
  case hy3 => (intro w hSw; (try dsimp only at hSw); go_simp; (try (with_reducible rfl)))
  (try simp only [Act.put, List.setIfInBounds_toArray, List.set_cons_succ, List.set_cons_zero])
  refine wpAnyH_take (i := 4) (oi := { dst := some 73, op := Go.Op.load 41 (Go.Operand.tmp 5), type := 41, pos := "law.go:70", after := #[{ on := 3, ground := Go.Ground.guard }], guard := some (3, false) }) (v := ?v4) rfl (by kernel_rfl) (by kernel_rfl) (by kernel_rfl) (fun _ _ _ h => h) (Or.inl ⟨by rfl, ?hy4⟩) (by assumption) ?rest4
  case hy4 => (intro w hSw; (try dsimp only at hSw); go_simp; (try (with_reducible rfl)))
  (try simp only [Act.put, List.setIfInBounds_toArray, List.set_cons_succ, List.set_cons_zero])
  refine wpAnyH_ready (rs := [5]) (by kernel_rfl) (by simp) ?_
  refine AllReadyH.cons (o := { dst := some 74, op := Go.Op.call { callee := Go.Callee.value (Go.Operand.func 22), args := #[Go.Operand.tmp 73], argTypes := #[41] }, type := 4, pos := "law.go:70", after := #[{ on := 4, ground := Go.Ground.data }, { on := 3, ground := Go.Ground.chain }, { on := 3, ground := Go.Ground.guard }], guard := some (3, false) }) rfl (fun K hK => ?_) AllReadyH.nil
  go_simp
  (go_at_call 22; (with_reducible refine (C2.out _ I3).mono ?_); rintro e w4 ⟨rfl, hb4⟩; have I4 := I3.step hb4; clear e0 e1 e2 e3 r0 r1 r2 r3 sz bel; obtain ⟨e0, e1, e2, e3, r0, r1, r2, r3, sz, bel⟩ := id I4; clear hb4 I3; clear C2)
  (try dsimp only)
  refine hK.out _ _ ?_ (fun hHeld2 => ?_)
  · (try dsimp only); first | assumption | go_keep
  clear hK K hHeld1
  (try simp only [Act.put, List.setIfInBounds_toArray, List.set_cons_succ, List.set_cons_zero])
  refine wpAnyH_take (i := 6) (oi := { dst := some 75, op := Go.Op.unOp Go.UnOp.not 4 (Go.Operand.tmp 74), type := 4, pos := "law.go:70", after := #[{ on := 5, ground := Go.Ground.data }, { on := 3, ground := Go.Ground.guard }], guard := some (3, false) }) (v := ?v6) rfl (by kernel_rfl) (by kernel_rfl) (by kernel_rfl) (fun _ _ _ h => h) (Or.inl ⟨by rfl, ?hy6⟩) (by assumption) ?rest6
  case hy6 => (intro w hSw; (try dsimp only at hSw); go_simp; (try (with_reducible rfl)))
  (try simp only [Act.put, List.setIfInBounds_toArray, List.set_cons_succ, List.set_cons_zero])
  refine wpAnyH_take (i := 7) (oi := { dst := some 76, op := Go.Op.pick (Go.Operand.tmp 72) (Go.Operand.const (Go.Value.bool true)) (Go.Operand.tmp 75), type := 4, pos := "law.go:70", after := #[{ on := 3, ground := Go.Ground.data }, { on := 6, ground := Go.Ground.data }], guard := none }) (v := ?v7) rfl (by kernel_rfl) (by kernel_rfl) (by kernel_rfl) (fun _ _ _ h => h) (Or.inl ⟨by rfl, ?hy7⟩) (by assumption) ?rest7
  case hy7 => (intro w hSw; (try dsimp only at hSw); go_simp; (try (with_reducible rfl)))
  (try simp only [Act.put, List.setIfInBounds_toArray, List.set_cons_succ, List.set_cons_zero])
  refine wpAnyH_take (i := 8) (oi := { dst := some 77, op := Go.Op.move (Go.Operand.tmp 76), type := 4, pos := "law.go:70", after := #[{ on := 7, ground := Go.Ground.data }, { on := 5, ground := Go.Ground.chain }], guard := none }) (v := ?v8) rfl (by kernel_rfl) (by kernel_rfl) (by kernel_rfl) (fun _ _ _ h => h) (Or.inl ⟨by rfl, ?hy8⟩) (by assumption) ?rest8
  case hy8 => (intro w hSw; (try dsimp only at hSw); go_simp; (try (with_reducible rfl)))
  (try simp only [Act.put, List.setIfInBounds_toArray, List.set_cons_succ, List.set_cons_zero])
  refine wpAnyH_take (i := 9) (oi := { dst := some 78, op := Go.Op.load 41 (Go.Operand.tmp 4), type := 41, pos := "law.go:70", after := #[{ on := 8, ground := Go.Ground.guard }], guard := some (8, false) }) (v := undef) rfl (by kernel_rfl) (by kernel_rfl) (by kernel_rfl) (fun _ _ _ h => h) (Or.inr ⟨by rfl, rfl⟩) (by assumption) ?rest9
  (try simp only [Act.put, List.setIfInBounds_toArray, List.set_cons_succ, List.set_cons_zero])
  refine wpAnyH_take (i := 10) (oi := { dst := some 79, op := Go.Op.call { callee := Go.Callee.value (Go.Operand.func 24), args := #[Go.Operand.tmp 78], argTypes := #[41] }, type := 9, pos := "law.go:70", after := #[{ on := 9, ground := Go.Ground.data }, { on := 8, ground := Go.Ground.chain }, { on := 8, ground := Go.Ground.guard }], guard := some (8, false) }) (v := undef) rfl (by kernel_rfl) (by kernel_rfl) (by kernel_rfl) (fun _ _ _ h => h) (Or.inr ⟨by rfl, rfl⟩) (by assumption) ?rest10
  (try simp only [Act.put, List.setIfInBounds_toArray, List.set_cons_succ, List.set_cons_zero])
  refine wpAnyH_take (i := 11) (oi := { dst := some 80, op := Go.Op.load 41 (Go.Operand.tmp 5), type := 41, pos := "law.go:70", after := #[{ on := 8, ground := Go.Ground.guard }], guard := some (8, false) }) (v := undef) rfl (by kernel_rfl) (by kernel_rfl) (by kernel_rfl) (fun _ _ _ h => h) (Or.inr ⟨by rfl, rfl⟩) (by assumption) ?rest11
  (try simp only [Act.put, List.setIfInBounds_toArray, List.set_cons_succ, List.set_cons_zero])
  refine wpAnyH_take (i := 12) (oi := { dst := some 81, op := Go.Op.call { callee := Go.Callee.value (Go.Operand.func 24), args := #[Go.Operand.tmp 80], argTypes := #[41] }, type := 9, pos := "law.go:70", after := #[{ on := 11, ground := Go.Ground.data }, { on := 10, ground := Go.Ground.chain }, { on := 8, ground := Go.Ground.guard }], guard := some (8, false) }) (v := undef) rfl (by kernel_rfl) (by kernel_rfl) (by kernel_rfl) (fun _ _ _ h => h) (Or.inr ⟨by rfl, rfl⟩) (by assumption) ?rest12
  (try simp only [Act.put, List.setIfInBounds_toArray, List.set_cons_succ, List.set_cons_zero])
  refine wpAnyH_take (i := 13) (oi := { dst := some 82, op := Go.Op.binOp Go.BinOp.eql 9 (Go.Operand.tmp 79) (Go.Operand.tmp 81) 9, type := 4, pos := "law.go:70", after := #[{ on := 10, ground := Go.Ground.data }, { on := 12, ground := Go.Ground.data }, { on := 8, ground := Go.Ground.guard }], guard := some (8, false) }) (v := undef) rfl (by kernel_rfl) (by kernel_rfl) (by kernel_rfl) (fun _ _ _ h => h) (Or.inr ⟨by rfl, rfl⟩) (by assumption) ?rest13
  (try simp only [Act.put, List.setIfInBounds_toArray, List.set_cons_succ, List.set_cons_zero])
  refine wpAnyH_take (i := 14) (oi := { dst := some 83, op := Go.Op.load 41 (Go.Operand.tmp 4), type := 41, pos := "law.go:70", after := #[{ on := 8, ground := Go.Ground.guard }], guard := some (8, false) }) (v := undef) rfl (by kernel_rfl) (by kernel_rfl) (by kernel_rfl) (fun _ _ _ h => h) (Or.inr ⟨by rfl, rfl⟩) (by assumption) ?rest14
  (try simp only [Act.put, List.setIfInBounds_toArray, List.set_cons_succ, List.set_cons_zero])
  refine wpAnyH_take (i := 15) (oi := { dst := some 84, op := Go.Op.load 41 (Go.Operand.tmp 5), type := 41, pos := "law.go:70", after := #[{ on := 8, ground := Go.Ground.guard }], guard := some (8, false) }) (v := undef) rfl (by kernel_rfl) (by kernel_rfl) (by kernel_rfl) (fun _ _ _ h => h) (Or.inr ⟨by rfl, rfl⟩) (by assumption) ?rest15
  (try simp only [Act.put, List.setIfInBounds_toArray, List.set_cons_succ, List.set_cons_zero])
  refine wpAnyH_take (i := 16) (oi := { dst := some 85, op := Go.Op.call { callee := Go.Callee.value (Go.Operand.func 18), args := #[Go.Operand.tmp 83, Go.Operand.tmp 84], argTypes := #[41, 41] }, type := 4, pos := "law.go:70", after := #[{ on := 14, ground := Go.Ground.data }, { on := 15, ground := Go.Ground.data }, { on := 12, ground := Go.Ground.chain }, { on := 8, ground := Go.Ground.guard }], guard := some (8, false) }) (v := undef) rfl (by kernel_rfl) (by kernel_rfl) (by kernel_rfl) (fun _ _ _ h => h) (Or.inr ⟨by rfl, rfl⟩) (by assumption) ?rest16
  (try simp only [Act.put, List.setIfInBounds_toArray, List.set_cons_succ, List.set_cons_zero])
  refine wpAnyH_take (i := 17) (oi := { dst := some 86, op := Go.Op.binOp Go.BinOp.eql 4 (Go.Operand.tmp 82) (Go.Operand.tmp 85) 4, type := 4, pos := "law.go:70", after := #[{ on := 13, ground := Go.Ground.data }, { on := 16, ground := Go.Ground.data }, { on := 8, ground := Go.Ground.guard }], guard := some (8, false) }) (v := undef) rfl (by kernel_rfl) (by kernel_rfl) (by kernel_rfl) (fun _ _ _ h => h) (Or.inr ⟨by rfl, rfl⟩) (by assumption) ?rest17
  (try simp only [Act.put, List.setIfInBounds_toArray, List.set_cons_succ, List.set_cons_zero])
  refine wpAnyH_take (i := 18) (oi := { dst := some 87, op := Go.Op.pick (Go.Operand.tmp 77) (Go.Operand.const (Go.Value.bool true)) (Go.Operand.tmp 86), type := 4, pos := "law.go:70", after := #[{ on := 8, ground := Go.Ground.data }, { on := 17, ground := Go.Ground.data }], guard := none }) (v := ?v18) rfl (by kernel_rfl) (by kernel_rfl) (by kernel_rfl) (fun _ _ _ h => h) (Or.inl ⟨by rfl, ?hy18⟩) (by assumption) ?rest18
  case hy18 => (intro w hSw; (try dsimp only at hSw); go_simp; (try (with_reducible rfl)))
  (try simp only [Act.put, List.setIfInBounds_toArray, List.set_cons_succ, List.set_cons_zero])
  refine wpAnyH_take (i := 19) (oi := { dst := some 88, op := Go.Op.move (Go.Operand.tmp 87), type := 4, pos := "law.go:70", after := #[{ on := 18, ground := Go.Ground.data }, { on := 16, ground := Go.Ground.chain }], guard := none }) (v := ?v19) rfl (by kernel_rfl) (by kernel_rfl) (by kernel_rfl) (fun _ _ _ h => h) (Or.inl ⟨by rfl, ?hy19⟩) (by assumption) ?rest19
  case hy19 => (intro w hSw; (try dsimp only at hSw); go_simp; (try (with_reducible rfl)))
  (try simp only [Act.put, List.setIfInBounds_toArray, List.set_cons_succ, List.set_cons_zero])
  refine wpAnyH_ready (rs := [20]) (by kernel_rfl) (by simp) ?_
  refine AllReadyH.cons (o := { dst := some 89, op := Go.Op.call { callee := Go.Callee.value (Go.Operand.func 9), args := #[], argTypes := #[] }, type := 4, pos := "law.go:70", after := #[{ on := 19, ground := Go.Ground.chain }, { on := 19, ground := Go.Ground.guard }], guard := some (19, true) }) rfl (fun K hK => ?_) AllReadyH.nil
  go_simp
  (go_at_call 9; refine (alive_any _).mono ?_; rintro e w5 ⟨rfl, hb5⟩; have I5 := I4.step hb5; clear e0 e1 e2 e3 r0 r1 r2 r3 sz bel; obtain ⟨e0, e1, e2, e3, r0, r1, r2, r3, sz, bel⟩ := id I5; clear hb5 I4)
  (try dsimp only)
  refine hK.out _ _ ?_ (fun hHeld3 => ?_)
  · (try dsimp only); first | assumption | go_keep
  clear hK K hHeld2
  (try simp only [Act.put, List.setIfInBounds_toArray, List.set_cons_succ, List.set_cons_zero])
  refine wpAnyH_take (i := 21) (oi := { dst := some 90, op := Go.Op.pick (Go.Operand.tmp 88) (Go.Operand.tmp 89) (Go.Operand.const (Go.Value.bool false)), type := 4, pos := "law.go:70", after := #[{ on := 19, ground := Go.Ground.data }, { on := 20, ground := Go.Ground.data }], guard := none }) (v := ?v21) rfl (by kernel_rfl) (by kernel_rfl) (by kernel_rfl) (fun _ _ _ h => h) (Or.inl ⟨by rfl, ?hy21⟩) (by assumption) ?rest21
  case hy21 => (intro w hSw; (try dsimp only at hSw); go_simp; (try (with_reducible rfl)))
  (try simp only [Act.put, List.setIfInBounds_toArray, List.set_cons_succ, List.set_cons_zero])
  refine wpAnyH_take (i := 22) (oi := { dst := some 6, op := Go.Op.assign (Go.Operand.tmp 90), type := 4, pos := "law.go:70", after := #[{ on := 21, ground := Go.Ground.data }, { on := 20, ground := Go.Ground.chain }, { on := 0, ground := Go.Ground.phase }, { on := 1, ground := Go.Ground.phase }, { on := 2, ground := Go.Ground.phase }, { on := 3, ground := Go.Ground.phase }, { on := 4, ground := Go.Ground.phase }, { on := 5, ground := Go.Ground.phase }, { on := 6, ground := Go.Ground.phase }, { on := 7, ground := Go.Ground.phase }, { on := 8, ground := Go.Ground.phase }, { on := 9, ground := Go.Ground.phase }, { on := 10, ground := Go.Ground.phase }, { on := 11, ground := Go.Ground.phase }, { on := 12, ground := Go.Ground.phase }, { on := 13, ground := Go.Ground.phase }, { on := 14, ground := Go.Ground.phase }, { on := 15, ground := Go.Ground.phase }, { on := 16, ground := Go.Ground.phase }, { on := 17, ground := Go.Ground.phase }, { on := 18, ground := Go.Ground.phase }, { on := 19, ground := Go.Ground.phase }, { on := 20, ground := Go.Ground.phase }, { on := 21, ground := Go.Ground.phase }], guard := none }) (v := ?v22) rfl (by kernel_rfl) (by kernel_rfl) (by kernel_rfl) (fun _ _ _ h => h) (Or.inl ⟨by rfl, ?hy22⟩) (by assumption) ?rest22
  case hy22 => (intro w hSw; (try dsimp only at hSw); go_simp; (try (with_reducible rfl)))
  (try simp only [Act.put, List.setIfInBounds_toArray, List.set_cons_succ, List.set_cons_zero])
  refine wpAnyH_done (by kernel_rfl) ?_ _
  go_wp2
  go_ret
  exact ⟨rfl, bel⟩

set_option maxHeartbeats 2000000 in
set_option maxRecDepth 100000 in
theorem back_Z3 (t : Int) (A1 A2 B1 B2 : Option Addr) (c1 c2 d1 d2 : Nat) (ps rs qs ss : List Int) (w : World) (h0 : RdI w w.heap.size A1 ps) (h1 : RdI w w.heap.size A2 rs) (h2 : RdI w w.heap.size B1 qs) (h3 : RdI w w.heap.size B2 ss) (l1 : ps.length ≤ 100) (l2 : rs.length ≤ 100) (l3 : qs.length ≤ 100) (l4 : ss.length ≤ 100) (hv : Ty.val t = true) (hn : Ty.num t = false) (hr : Ty.ref t = true) (ra : (Ty.right ps && Ty.right rs) = true) (rb_ : (Ty.right qs && Ty.right ss) = true) (xs : Bool) (hxs : (decide (ps = qs) && decide (rs = ss)) = xs) :
    Calls Try.prog 7 #[.int .i64 t, .agg #[.slice A1 ps.length c1, .slice A2 rs.length c2], .agg #[.slice B1 qs.length d1, .slice B2 ss.length d2]] w fun e w' => e = .returned (.bool true) ∧ Below w.heap.size w w' := by
  have k1 : (decide (ps.length ≤ 100) && decide (rs.length ≤ 100)) = true := by simp; omega
  have k2 : (decide (qs.length ≤ 100) && decide (ss.length ≤ 100)) = true := by simp; omega
  have F1 : Hid (∀ W : World, Calls Try.prog 17 #[.agg #[.slice A1 ps.length c1, .slice A2 rs.length c2]] W fun e w' => e = .returned (.bool true) ∧ Below W.heap.size W w') := fun W => by have := few_any A1 A2 c1 c2 ps.length rs.length W; rw [k1] at this; exact this
  have F2 : Hid (∀ W : World, Calls Try.prog 17 #[.agg #[.slice B1 qs.length d1, .slice B2 ss.length d2]] W fun e w' => e = .returned (.bool true) ∧ Below W.heap.size W w') := fun W => by have := few_any B1 B2 d1 d2 qs.length ss.length W; rw [k2] at this; exact this
  have V0 : Hid (∀ W : World, Calls Try.prog 32 #[.int .i64 t] W fun e w' => e = .returned (.bool true) ∧ W = w') := fun W => by have := val_any t W; rw [hv] at this; exact this
  obtain ⟨bt, hbt⟩ : ∃ x, Ty.byte t = x := ⟨_, rfl⟩
  obtain ⟨nt, hnt⟩ : ∃ x, Ty.name t = x := ⟨_, rfl⟩
  have V1 : Hid (∀ W : World, Calls Try.prog 26 #[.int .i64 t] W fun e w' => e = .returned (.tuple #[.int .u8 bt, .bool true]) ∧ W = w') := fun W => by have := byte_any t W; rw [hv, hbt] at this; exact this
  have V2 : Hid (∀ W : World, Calls Try.prog 30 #[.int .u8 bt] W fun e w' => e = .returned (.tuple #[.int .i64 t, .bool true]) ∧ W = w') := fun W => by have := ofByte_any bt W; rw [← hbt, Ty.ofByte_byte hv, hbt] at this; exact this
  have V3 : Hid (∀ W : World, Calls Try.prog 38 #[.int .i64 t] W fun e w' => e = .returned (.string ⟨nt.toArray⟩) ∧ W = w') := fun W => by have := name_any t W; rw [hnt] at this; exact this
  have V4 : Hid (∀ W : World, Calls Try.prog 28 #[.string ⟨nt.toArray⟩] W fun e w' => e = .returned (.tuple #[.int .i64 t, .bool true]) ∧ W = w') := fun W => by have := find_any nt W; rw [← hnt, Ty.find_name hv, hnt] at this; exact this
  have V5 : Hid (∀ W : World, Calls Try.prog 34 #[.int .i64 t] W fun e w' => e = .returned (.bool false) ∧ W = w') := fun W => by have := num_any t W; rw [hn] at this; exact this
  have V6 : Hid (∀ W : World, Calls Try.prog 36 #[.int .i64 t] W fun e w' => e = .returned (.bool true) ∧ W = w') := fun W => by have := ref_any t W; rw [hr] at this; exact this
  simp only [Bool.and_eq_true] at ra rb_
  have hg := Ty.text_apart ps rs qs ss ra.1 ra.2 rb_.1 rb_.2
  rw [hxs] at hg
  replace ra : (Ty.right ps && Ty.right rs) = true := by simp [ra.1, ra.2]
  replace rb_ : (Ty.right qs && Ty.right ss) = true := by simp [rb_.1, rb_.2]
  obtain ⟨xt, hxt⟩ : ∃ x, Ty.text ps rs = x := ⟨_, rfl⟩
  obtain ⟨yt, hyt⟩ : ∃ x, Ty.text qs ss = x := ⟨_, rfl⟩
  rw [hxt, hyt] at hg
  have C1 : Hid (∀ W : World, Im2 w W A1 A2 B1 B2 c1 c2 d1 d2 ps rs qs ss → Calls Try.prog 22 #[.agg #[.slice A1 ps.length c1, .slice A2 rs.length c2]] W fun e w' => e = .returned (.bool true) ∧ Below W.heap.size W w') := fun W I => by have s := I.bel.size; have := right_any A1 A2 c1 c2 ps rs W (I.r0.more s) (I.r1.more s) (by omega) (by omega); rw [ra] at this; exact this
  have C2 : Hid (∀ W : World, Im2 w W A1 A2 B1 B2 c1 c2 d1 d2 ps rs qs ss → Calls Try.prog 22 #[.agg #[.slice B1 qs.length d1, .slice B2 ss.length d2]] W fun e w' => e = .returned (.bool true) ∧ Below W.heap.size W w') := fun W I => by have s := I.bel.size; have := right_any B1 B2 d1 d2 qs ss W (I.r2.more s) (I.r3.more s) (by omega) (by omega); rw [rb_] at this; exact this
  have C3 : Hid (∀ W : World, Im2 w W A1 A2 B1 B2 c1 c2 d1 d2 ps rs qs ss → Calls Try.prog 24 #[.agg #[.slice A1 ps.length c1, .slice A2 rs.length c2]] W fun e w' => e = .returned (.string ⟨xt.toArray⟩) ∧ Below W.heap.size W w') := fun W I => by have s := I.bel.size; have := text_any A1 A2 c1 c2 ps rs W (I.r0.more s) (I.r1.more s) (by omega) (by omega); rw [hxt] at this; exact this
  have C4 : Hid (∀ W : World, Im2 w W A1 A2 B1 B2 c1 c2 d1 d2 ps rs qs ss → Calls Try.prog 24 #[.agg #[.slice B1 qs.length d1, .slice B2 ss.length d2]] W fun e w' => e = .returned (.string ⟨yt.toArray⟩) ∧ Below W.heap.size W w') := fun W I => by have s := I.bel.size; have := text_any B1 B2 d1 d2 qs ss W (I.r2.more s) (I.r3.more s) (by omega) (by omega); rw [hyt] at this; exact this
  have C5 : Hid (∀ W : World, Im2 w W A1 A2 B1 B2 c1 c2 d1 d2 ps rs qs ss → Calls Try.prog 18 #[.agg #[.slice A1 ps.length c1, .slice A2 rs.length c2], .agg #[.slice B1 qs.length d1, .slice B2 ss.length d2]] W fun e w' => e = .returned (.bool xs) ∧ Below W.heap.size W w') := fun W I => by have s := I.bel.size; have := typesSame_any A1 A2 B1 B2 c1 c2 d1 d2 ps rs qs ss W (I.r0.more s) (I.r1.more s) (I.r2.more s) (I.r3.more s) (by omega) (by omega); rw [hxs] at this; exact this
  clear k1 k2 ra hv hn hr hbt hnt rb_ hxt hyt hxs
  have I0 := Im2.two w A1 A2 B1 B2 c1 c2 d1 d2 ps rs qs ss h0 h1 h2 h3
  go_enter Try.func7, Try.ntmps7
  go_wp2_with fail
  generalize (w.alloc (.cells #[.slice A1 ps.length c1, .slice A2 rs.length c2] 41)).alloc (.cells #[.slice B1 qs.length d1, .slice B2 ss.length d2] 41) = W0 at I0 ⊢
  obtain ⟨e0, e1, e2, e3, r0, r1, r2, r3, sz, bel⟩ := id I0
  go_wp2_with (first
    | (go_at_call 17; (with_reducible refine (F1.out _).mono ?_); rintro e w1 ⟨rfl, hb1⟩; have I1 := I0.step hb1; clear e0 e1 e2 e3 r0 r1 r2 r3 sz bel; obtain ⟨e0, e1, e2, e3, r0, r1, r2, r3, sz, bel⟩ := id I1; clear hb1 I0; clear F1)
    | (go_at_call 17; (with_reducible refine (F2.out _).mono ?_); rintro e w2 ⟨rfl, hb2⟩; have I2 := I1.step hb2; clear e0 e1 e2 e3 r0 r1 r2 r3 sz bel; obtain ⟨e0, e1, e2, e3, r0, r1, r2, r3, sz, bel⟩ := id I2; clear hb2 I1; clear F2)
    | (go_at_call 32; (with_reducible refine (V0.out _).mono ?_); rintro e w9 ⟨rfl, rfl⟩)
    | (go_at_call 26; (with_reducible refine (V1.out _).mono ?_); rintro e w9 ⟨rfl, rfl⟩)
    | (go_at_call 30; (with_reducible refine (V2.out _).mono ?_); rintro e w9 ⟨rfl, rfl⟩)
    | (go_at_call 38; (with_reducible refine (V3.out _).mono ?_); rintro e w9 ⟨rfl, rfl⟩)
    | (go_at_call 28; (with_reducible refine (V4.out _).mono ?_); rintro e w9 ⟨rfl, rfl⟩)
    | (go_at_call 34; (with_reducible refine (V5.out _).mono ?_); rintro e w9 ⟨rfl, rfl⟩)
    | (go_at_call 36; (with_reducible refine (V6.out _).mono ?_); rintro e w9 ⟨rfl, rfl⟩))
  refine wp_region_held_drew (S := fun w' => w'.cell? ⟨w.heap.size, 0, none⟩ = some (.slice A1 ps.length c1) ∧ w'.cell? ⟨w.heap.size, 1, none⟩ = some (.slice A2 rs.length c2) ∧ w'.cell? ⟨w.heap.size + 1, 0, none⟩ = some (.slice B1 qs.length d1) ∧ w'.cell? ⟨w.heap.size + 1, 1, none⟩ = some (.slice B2 ss.length d2)) (by kernel_rfl) ?_ (fun hHeld0 => ?_)
  · first | assumption | go_keep
  refine wpAnyH_take (i := 0) (oi := { dst := some 69, op := Go.Op.load 41 (Go.Operand.tmp 4), type := 41, pos := "law.go:70", after := #[], guard := none }) (v := ?v0) rfl (by kernel_rfl) (by kernel_rfl) (by kernel_rfl) (fun _ _ _ h => h) (Or.inl ⟨by rfl, ?hy0⟩) (by assumption) ?rest0
  case hy0 => (intro w hSw; (try dsimp only at hSw); go_simp; (try (with_reducible rfl)))
  (try simp only [Act.put, List.setIfInBounds_toArray, List.set_cons_succ, List.set_cons_zero])
  refine wpAnyH_ready (rs := [1]) (by kernel_rfl) (by simp) ?_
  refine AllReadyH.cons (o := { dst := some 70, op := Go.Op.call { callee := Go.Callee.value (Go.Operand.func 22), args := #[Go.Operand.tmp 69], argTypes := #[41] }, type := 4, pos := "law.go:70", after := #[{ on := 0, ground := Go.Ground.data }], guard := none }) rfl (fun K hK => ?_) AllReadyH.nil
  go_simp
  (go_at_call 22; (with_reducible refine (C1.out _ I2.drew).mono ?_); rintro e w3 ⟨rfl, hb3⟩; have I3 := I2.drew.step hb3; clear e0 e1 e2 e3 r0 r1 r2 r3 sz bel; obtain ⟨e0, e1, e2, e3, r0, r1, r2, r3, sz, bel⟩ := id I3; clear hb3 I2; clear C1)
  (try dsimp only)
  refine hK.out _ _ ?_ (fun hHeld1 => ?_)
  · (try dsimp only); first | assumption | go_keep
  clear hK K hHeld0
  (try simp only [Act.put, List.setIfInBounds_toArray, List.set_cons_succ, List.set_cons_zero])
  refine wpAnyH_take (i := 2) (oi := { dst := some 71, op := Go.Op.unOp Go.UnOp.not 4 (Go.Operand.tmp 70), type := 4, pos := "law.go:70", after := #[{ on := 1, ground := Go.Ground.data }], guard := none }) (v := ?v2) rfl (by kernel_rfl) (by kernel_rfl) (by kernel_rfl) (fun _ _ _ h => h) (Or.inl ⟨by rfl, ?hy2⟩) (by assumption) ?rest2
  case hy2 => (intro w hSw; (try dsimp only at hSw); go_simp; (try (with_reducible rfl)))
  (try simp only [Act.put, List.setIfInBounds_toArray, List.set_cons_succ, List.set_cons_zero])
  refine wpAnyH_take (i := 3) (oi := { dst := some 72, op := Go.Op.move (Go.Operand.tmp 71), type := 4, pos := "law.go:70", after := #[{ on := 2, ground := Go.Ground.data }, { on := 1, ground := Go.Ground.chain }], guard := none }) (v := ?v3) rfl (by kernel_rfl) (by kernel_rfl) (by kernel_rfl) (fun _ _ _ h => h) (Or.inl ⟨by rfl, ?hy3⟩) (by assumption) ?rest3
  case hy3 => (intro w hSw; (try dsimp only at hSw); go_simp; (try (with_reducible rfl)))
  (try simp only [Act.put, List.setIfInBounds_toArray, List.set_cons_succ, List.set_cons_zero])
  refine wpAnyH_take (i := 4) (oi := { dst := some 73, op := Go.Op.load 41 (Go.Operand.tmp 5), type := 41, pos := "law.go:70", after := #[{ on := 3, ground := Go.Ground.guard }], guard := some (3, false) }) (v := ?v4) rfl (by kernel_rfl) (by kernel_rfl) (by kernel_rfl) (fun _ _ _ h => h) (Or.inl ⟨by rfl, ?hy4⟩) (by assumption) ?rest4
  case hy4 => (intro w hSw; (try dsimp only at hSw); go_simp; (try (with_reducible rfl)))
  (try simp only [Act.put, List.setIfInBounds_toArray, List.set_cons_succ, List.set_cons_zero])
  refine wpAnyH_ready (rs := [5]) (by kernel_rfl) (by simp) ?_
  refine AllReadyH.cons (o := { dst := some 74, op := Go.Op.call { callee := Go.Callee.value (Go.Operand.func 22), args := #[Go.Operand.tmp 73], argTypes := #[41] }, type := 4, pos := "law.go:70", after := #[{ on := 4, ground := Go.Ground.data }, { on := 3, ground := Go.Ground.chain }, { on := 3, ground := Go.Ground.guard }], guard := some (3, false) }) rfl (fun K hK => ?_) AllReadyH.nil
  go_simp
  (go_at_call 22; (with_reducible refine (C2.out _ I3).mono ?_); rintro e w4 ⟨rfl, hb4⟩; have I4 := I3.step hb4; clear e0 e1 e2 e3 r0 r1 r2 r3 sz bel; obtain ⟨e0, e1, e2, e3, r0, r1, r2, r3, sz, bel⟩ := id I4; clear hb4 I3; clear C2)
  (try dsimp only)
  refine hK.out _ _ ?_ (fun hHeld2 => ?_)
  · (try dsimp only); first | assumption | go_keep
  clear hK K hHeld1
  (try simp only [Act.put, List.setIfInBounds_toArray, List.set_cons_succ, List.set_cons_zero])
  refine wpAnyH_take (i := 6) (oi := { dst := some 75, op := Go.Op.unOp Go.UnOp.not 4 (Go.Operand.tmp 74), type := 4, pos := "law.go:70", after := #[{ on := 5, ground := Go.Ground.data }, { on := 3, ground := Go.Ground.guard }], guard := some (3, false) }) (v := ?v6) rfl (by kernel_rfl) (by kernel_rfl) (by kernel_rfl) (fun _ _ _ h => h) (Or.inl ⟨by rfl, ?hy6⟩) (by assumption) ?rest6
  case hy6 => (intro w hSw; (try dsimp only at hSw); go_simp; (try (with_reducible rfl)))
  (try simp only [Act.put, List.setIfInBounds_toArray, List.set_cons_succ, List.set_cons_zero])
  refine wpAnyH_take (i := 7) (oi := { dst := some 76, op := Go.Op.pick (Go.Operand.tmp 72) (Go.Operand.const (Go.Value.bool true)) (Go.Operand.tmp 75), type := 4, pos := "law.go:70", after := #[{ on := 3, ground := Go.Ground.data }, { on := 6, ground := Go.Ground.data }], guard := none }) (v := ?v7) rfl (by kernel_rfl) (by kernel_rfl) (by kernel_rfl) (fun _ _ _ h => h) (Or.inl ⟨by rfl, ?hy7⟩) (by assumption) ?rest7
  case hy7 => (intro w hSw; (try dsimp only at hSw); go_simp; (try (with_reducible rfl)))
  (try simp only [Act.put, List.setIfInBounds_toArray, List.set_cons_succ, List.set_cons_zero])
  refine wpAnyH_take (i := 8) (oi := { dst := some 77, op := Go.Op.move (Go.Operand.tmp 76), type := 4, pos := "law.go:70", after := #[{ on := 7, ground := Go.Ground.data }, { on := 5, ground := Go.Ground.chain }], guard := none }) (v := ?v8) rfl (by kernel_rfl) (by kernel_rfl) (by kernel_rfl) (fun _ _ _ h => h) (Or.inl ⟨by rfl, ?hy8⟩) (by assumption) ?rest8
  case hy8 => (intro w hSw; (try dsimp only at hSw); go_simp; (try (with_reducible rfl)))
  (try simp only [Act.put, List.setIfInBounds_toArray, List.set_cons_succ, List.set_cons_zero])
  refine wpAnyH_take (i := 9) (oi := { dst := some 78, op := Go.Op.load 41 (Go.Operand.tmp 4), type := 41, pos := "law.go:70", after := #[{ on := 8, ground := Go.Ground.guard }], guard := some (8, false) }) (v := ?v9) rfl (by kernel_rfl) (by kernel_rfl) (by kernel_rfl) (fun _ _ _ h => h) (Or.inl ⟨by rfl, ?hy9⟩) (by assumption) ?rest9
  case hy9 => (intro w hSw; (try dsimp only at hSw); go_simp; (try (with_reducible rfl)))
  (try simp only [Act.put, List.setIfInBounds_toArray, List.set_cons_succ, List.set_cons_zero])
  refine wpAnyH_take (i := 11) (oi := { dst := some 80, op := Go.Op.load 41 (Go.Operand.tmp 5), type := 41, pos := "law.go:70", after := #[{ on := 8, ground := Go.Ground.guard }], guard := some (8, false) }) (v := ?v11) rfl (by kernel_rfl) (by kernel_rfl) (by kernel_rfl) (fun _ _ _ h => h) (Or.inl ⟨by rfl, ?hy11⟩) (by assumption) ?rest11
  case hy11 => (intro w hSw; (try dsimp only at hSw); go_simp; (try (with_reducible rfl)))
  (try simp only [Act.put, List.setIfInBounds_toArray, List.set_cons_succ, List.set_cons_zero])
  refine wpAnyH_take (i := 14) (oi := { dst := some 83, op := Go.Op.load 41 (Go.Operand.tmp 4), type := 41, pos := "law.go:70", after := #[{ on := 8, ground := Go.Ground.guard }], guard := some (8, false) }) (v := ?v14) rfl (by kernel_rfl) (by kernel_rfl) (by kernel_rfl) (fun _ _ _ h => h) (Or.inl ⟨by rfl, ?hy14⟩) (by assumption) ?rest14
  case hy14 => (intro w hSw; (try dsimp only at hSw); go_simp; (try (with_reducible rfl)))
  (try simp only [Act.put, List.setIfInBounds_toArray, List.set_cons_succ, List.set_cons_zero])
  refine wpAnyH_take (i := 15) (oi := { dst := some 84, op := Go.Op.load 41 (Go.Operand.tmp 5), type := 41, pos := "law.go:70", after := #[{ on := 8, ground := Go.Ground.guard }], guard := some (8, false) }) (v := ?v15) rfl (by kernel_rfl) (by kernel_rfl) (by kernel_rfl) (fun _ _ _ h => h) (Or.inl ⟨by rfl, ?hy15⟩) (by assumption) ?rest15
  case hy15 => (intro w hSw; (try dsimp only at hSw); go_simp; (try (with_reducible rfl)))
  (try simp only [Act.put, List.setIfInBounds_toArray, List.set_cons_succ, List.set_cons_zero])
  refine wpAnyH_ready (rs := [10]) (by kernel_rfl) (by simp) ?_
  refine AllReadyH.cons (o := { dst := some 79, op := Go.Op.call { callee := Go.Callee.value (Go.Operand.func 24), args := #[Go.Operand.tmp 78], argTypes := #[41] }, type := 9, pos := "law.go:70", after := #[{ on := 9, ground := Go.Ground.data }, { on := 8, ground := Go.Ground.chain }, { on := 8, ground := Go.Ground.guard }], guard := some (8, false) }) rfl (fun K hK => ?_) AllReadyH.nil
  go_simp
  (go_at_call 24; (with_reducible refine (C3.out _ I4).mono ?_); rintro e w5 ⟨rfl, hb5⟩; have I5 := I4.step hb5; clear e0 e1 e2 e3 r0 r1 r2 r3 sz bel; obtain ⟨e0, e1, e2, e3, r0, r1, r2, r3, sz, bel⟩ := id I5; clear hb5 I4; clear C3)
  (try dsimp only)
  refine hK.out _ _ ?_ (fun hHeld3 => ?_)
  · (try dsimp only); first | assumption | go_keep
  clear hK K hHeld2
  (try simp only [Act.put, List.setIfInBounds_toArray, List.set_cons_succ, List.set_cons_zero])
  refine wpAnyH_ready (rs := [12]) (by kernel_rfl) (by simp) ?_
  refine AllReadyH.cons (o := { dst := some 81, op := Go.Op.call { callee := Go.Callee.value (Go.Operand.func 24), args := #[Go.Operand.tmp 80], argTypes := #[41] }, type := 9, pos := "law.go:70", after := #[{ on := 11, ground := Go.Ground.data }, { on := 10, ground := Go.Ground.chain }, { on := 8, ground := Go.Ground.guard }], guard := some (8, false) }) rfl (fun K hK => ?_) AllReadyH.nil
  go_simp
  (go_at_call 24; (with_reducible refine (C4.out _ I5).mono ?_); rintro e w6 ⟨rfl, hb6⟩; have I6 := I5.step hb6; clear e0 e1 e2 e3 r0 r1 r2 r3 sz bel; obtain ⟨e0, e1, e2, e3, r0, r1, r2, r3, sz, bel⟩ := id I6; clear hb6 I5; clear C4)
  (try dsimp only)
  refine hK.out _ _ ?_ (fun hHeld4 => ?_)
  · (try dsimp only); first | assumption | go_keep
  clear hK K hHeld3
  (try simp only [Act.put, List.setIfInBounds_toArray, List.set_cons_succ, List.set_cons_zero])
  refine wpAnyH_take (i := 13) (oi := { dst := some 82, op := Go.Op.binOp Go.BinOp.eql 9 (Go.Operand.tmp 79) (Go.Operand.tmp 81) 9, type := 4, pos := "law.go:70", after := #[{ on := 10, ground := Go.Ground.data }, { on := 12, ground := Go.Ground.data }, { on := 8, ground := Go.Ground.guard }], guard := some (8, false) }) (v := ?v13) rfl (by kernel_rfl) (by kernel_rfl) (by kernel_rfl) (fun _ _ _ h => h) (Or.inl ⟨by rfl, ?hy13⟩) (by assumption) ?rest13
  case hy13 => (intro w hSw; (try dsimp only at hSw); go_simp; (try (with_reducible rfl)))
  (try simp only [Act.put, List.setIfInBounds_toArray, List.set_cons_succ, List.set_cons_zero])
  refine wpAnyH_ready (rs := [16]) (by kernel_rfl) (by simp) ?_
  refine AllReadyH.cons (o := { dst := some 85, op := Go.Op.call { callee := Go.Callee.value (Go.Operand.func 18), args := #[Go.Operand.tmp 83, Go.Operand.tmp 84], argTypes := #[41, 41] }, type := 4, pos := "law.go:70", after := #[{ on := 14, ground := Go.Ground.data }, { on := 15, ground := Go.Ground.data }, { on := 12, ground := Go.Ground.chain }, { on := 8, ground := Go.Ground.guard }], guard := some (8, false) }) rfl (fun K hK => ?_) AllReadyH.nil
  go_simp
  (go_at_call 18; (with_reducible refine (C5.out _ I6).mono ?_); rintro e w7 ⟨rfl, hb7⟩; have I7 := I6.step hb7; clear e0 e1 e2 e3 r0 r1 r2 r3 sz bel; obtain ⟨e0, e1, e2, e3, r0, r1, r2, r3, sz, bel⟩ := id I7; clear hb7 I6; clear C5)
  (try dsimp only)
  refine hK.out _ _ ?_ (fun hHeld5 => ?_)
  · (try dsimp only); first | assumption | go_keep
  clear hK K hHeld4
  (try simp only [Act.put, List.setIfInBounds_toArray, List.set_cons_succ, List.set_cons_zero])
  refine wpAnyH_take (i := 17) (oi := { dst := some 86, op := Go.Op.binOp Go.BinOp.eql 4 (Go.Operand.tmp 82) (Go.Operand.tmp 85) 4, type := 4, pos := "law.go:70", after := #[{ on := 13, ground := Go.Ground.data }, { on := 16, ground := Go.Ground.data }, { on := 8, ground := Go.Ground.guard }], guard := some (8, false) }) (v := ?v17) rfl (by kernel_rfl) (by kernel_rfl) (by kernel_rfl) (fun _ _ _ h => h) (Or.inl ⟨by rfl, ?hy17⟩) (by assumption) ?rest17
  case hy17 => (intro w hSw; (try dsimp only at hSw); go_simp; (try (with_reducible rfl)))
  (try simp only [Act.put, List.setIfInBounds_toArray, List.set_cons_succ, List.set_cons_zero])
  refine wpAnyH_take (i := 18) (oi := { dst := some 87, op := Go.Op.pick (Go.Operand.tmp 77) (Go.Operand.const (Go.Value.bool true)) (Go.Operand.tmp 86), type := 4, pos := "law.go:70", after := #[{ on := 8, ground := Go.Ground.data }, { on := 17, ground := Go.Ground.data }], guard := none }) (v := ?v18) rfl (by kernel_rfl) (by kernel_rfl) (by kernel_rfl) (fun _ _ _ h => h) (Or.inl ⟨by rfl, ?hy18⟩) (by assumption) ?rest18
  case hy18 => (intro w hSw; (try dsimp only at hSw); go_simp; (try (with_reducible rfl)))
  (try simp only [Act.put, List.setIfInBounds_toArray, List.set_cons_succ, List.set_cons_zero])
  refine wpAnyH_take (i := 19) (oi := { dst := some 88, op := Go.Op.move (Go.Operand.tmp 87), type := 4, pos := "law.go:70", after := #[{ on := 18, ground := Go.Ground.data }, { on := 16, ground := Go.Ground.chain }], guard := none }) (v := ?v19) rfl (by kernel_rfl) (by kernel_rfl) (by kernel_rfl) (fun _ _ _ h => h) (Or.inl ⟨by rfl, ?hy19⟩) (by assumption) ?rest19
  case hy19 => (intro w hSw; (try dsimp only at hSw); go_simp; (try (with_reducible rfl)))
  (try simp only [Act.put, List.setIfInBounds_toArray, List.set_cons_succ, List.set_cons_zero])
  refine wpAnyH_ready (rs := [20]) (by kernel_rfl) (by simp) ?_
  refine AllReadyH.cons (o := { dst := some 89, op := Go.Op.call { callee := Go.Callee.value (Go.Operand.func 9), args := #[], argTypes := #[] }, type := 4, pos := "law.go:70", after := #[{ on := 19, ground := Go.Ground.chain }, { on := 19, ground := Go.Ground.guard }], guard := some (19, true) }) rfl (fun K hK => ?_) AllReadyH.nil
  go_simp
  (go_at_call 9; refine (alive_any _).mono ?_; rintro e w8 ⟨rfl, hb8⟩; have I8 := I7.step hb8; clear e0 e1 e2 e3 r0 r1 r2 r3 sz bel; obtain ⟨e0, e1, e2, e3, r0, r1, r2, r3, sz, bel⟩ := id I8; clear hb8 I7)
  (try dsimp only)
  refine hK.out _ _ ?_ (fun hHeld6 => ?_)
  · (try dsimp only); first | assumption | go_keep
  clear hK K hHeld5
  (try simp only [Act.put, List.setIfInBounds_toArray, List.set_cons_succ, List.set_cons_zero])
  refine wpAnyH_take (i := 21) (oi := { dst := some 90, op := Go.Op.pick (Go.Operand.tmp 88) (Go.Operand.tmp 89) (Go.Operand.const (Go.Value.bool false)), type := 4, pos := "law.go:70", after := #[{ on := 19, ground := Go.Ground.data }, { on := 20, ground := Go.Ground.data }], guard := none }) (v := ?v21) rfl (by kernel_rfl) (by kernel_rfl) (by kernel_rfl) (fun _ _ _ h => h) (Or.inl ⟨by rfl, ?hy21⟩) (by assumption) ?rest21
  case hy21 => (intro w hSw; (try dsimp only at hSw); go_simp; (try (with_reducible rfl)))
  (try simp only [Act.put, List.setIfInBounds_toArray, List.set_cons_succ, List.set_cons_zero])
  refine wpAnyH_take (i := 22) (oi := { dst := some 6, op := Go.Op.assign (Go.Operand.tmp 90), type := 4, pos := "law.go:70", after := #[{ on := 21, ground := Go.Ground.data }, { on := 20, ground := Go.Ground.chain }, { on := 0, ground := Go.Ground.phase }, { on := 1, ground := Go.Ground.phase }, { on := 2, ground := Go.Ground.phase }, { on := 3, ground := Go.Ground.phase }, { on := 4, ground := Go.Ground.phase }, { on := 5, ground := Go.Ground.phase }, { on := 6, ground := Go.Ground.phase }, { on := 7, ground := Go.Ground.phase }, { on := 8, ground := Go.Ground.phase }, { on := 9, ground := Go.Ground.phase }, { on := 10, ground := Go.Ground.phase }, { on := 11, ground := Go.Ground.phase }, { on := 12, ground := Go.Ground.phase }, { on := 13, ground := Go.Ground.phase }, { on := 14, ground := Go.Ground.phase }, { on := 15, ground := Go.Ground.phase }, { on := 16, ground := Go.Ground.phase }, { on := 17, ground := Go.Ground.phase }, { on := 18, ground := Go.Ground.phase }, { on := 19, ground := Go.Ground.phase }, { on := 20, ground := Go.Ground.phase }, { on := 21, ground := Go.Ground.phase }], guard := none }) (v := ?v22) rfl (by kernel_rfl) (by kernel_rfl) (by kernel_rfl) (fun _ _ _ h => h) (Or.inl ⟨by rfl, ?hy22⟩) (by assumption) ?rest22
  case hy22 => (intro w hSw; (try dsimp only at hSw); go_simp; (try (with_reducible rfl)))
  (try simp only [Act.put, List.setIfInBounds_toArray, List.set_cons_succ, List.set_cons_zero])
  refine wpAnyH_done (by kernel_rfl) ?_ _
  go_wp2
  go_ret
  exact ⟨rfl, bel⟩
end Go.Proofs.Ytkljmdekihlkeaa
