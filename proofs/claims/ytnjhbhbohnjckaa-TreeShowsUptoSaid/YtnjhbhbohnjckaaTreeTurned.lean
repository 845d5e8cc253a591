/-
  The walks of turned and given: nodes built anew.
-/
import Derived.Test.YtnjhbhbohnjckaaTreeOwn
import Derived.Test.YtnjhbhbohnjckaaTreeCount
import Derived.Deep.RegionHeld3
set_option linter.unusedVariables false
set_option linter.unusedSimpArgs false
namespace Go.Proofs.Ytnjhbhbohnjckaa
open Go.RowKit
open Tree (Tr)

set_option maxHeartbeats 2000000 in
set_option maxRecDepth 100000 in
theorem turned_any : ∀ (f : Nat) (l : List Tr), Tree.counts l < f → Tree.counts l ≤ 1000000 → ∀ (A : Option Addr) (c : Nat) (S : Nat → Prop) (w : World), Lies w S A l → (∀ g, S g → g < w.heap.size) →
    Calls Try.prog 12 #[.slice A l.length c] w fun e w' => ∃ A' c', e = .returned (.slice A' l.length c') ∧ Lies w' (Fresh w.heap.size w') A' l ∧ l.length ≤ c' ∧ c' ≤ maxLen ∧ Below w.heap.size w w' := by
  intro f
  induction f with
  | zero => intro l h; omega
  | succ f ih =>
    intro l hf hct A c S w hl hS
    have hll := Tree.len_le_counts l
    have HL := Lib.hid hl
    clear hl
    go_enter Try.func12, Try.ntmps12
    go_wp2
    go_loopw [3, 4] (fun a i wr => ∃ (j : Nat) (Ar : Option Addr) (cr : Nat), j ≤ l.length ∧ a = .slice Ar j cr ∧ i = .int .i64 j ∧ NRow wr w.heap.size 43 (.slice Ar j cr) (l.take j) ∧ Below w.heap.size w wr) (fun _ i _ => l.length - (intOf i).toNat)
    case atStart => exact ⟨0, none, 0, by omega, rfl, rfl, by rw [List.take_zero]; exact NRow.nil _ _ _, Below.refl _ _⟩
    case round =>
      obtain ⟨j, Ar, cr, hj, rfl, rfl, hrow, hb⟩ := hrel
      by_cases hjl : j < l.length
      · obtain ⟨g, o, rfl, hg, c0, c1, c2, A', c', c3, hl', -⟩ := HL.out.get j hjl
        have hsz := hb.size
        have hgl := hS _ hg
        have hgl2 := Nat.lt_of_lt_of_le hgl hsz
        have d0 := (hb.cell (p := ⟨g, o + j * 4, none⟩) hgl).trans c0
        have d1 := (hb.cell (p := ⟨g, o + j * 4 + 1, none⟩) hgl).trans c1
        have d2 := (hb.cell (p := ⟨g, o + j * 4 + 2, none⟩) hgl).trans c2
        have d3 := (hb.cell (p := ⟨g, o + j * 4 + 3, none⟩) hgl).trans c3
        have hi0 : (0 : Int) ≤ (j : Int) := Int.natCast_nonneg _
        have hi1 : (j : Int) < (l.length : Int) := by omega
        have hstep := List.take_succ_eq_append_getElem hjl
        have hct2 := Tree.counts_take l j hjl
        have hct3 := Tree.counts_take_le l (j + 1)
        obtain ⟨x, hx⟩ : ∃ x, l[j] = x := ⟨_, rfl⟩
        rw [hx] at d0 d1 d2 d3 hl' hstep hct2
        clear c0 c1 c2 c3 hx
        obtain ⟨mk, mp, mt, ml⟩ := x
        dsimp only [Tree.Tr.kind, Tree.Tr.pos, Tree.Tr.text, Tree.Tr.l] at d0 d1 d2 d3 hl'
        rw [show Tree.count (.mk mk mp mt ml) = 1 + Tree.counts ml from by rw [Tree.count]] at hct2
        have hcall := ih ml (by omega) (by omega) A' c' S wr.drew (hl'.keep (fun g hg => hb.drew.block g (hS g hg)) (fun _ h => h)) (fun g hg => Nat.lt_of_lt_of_le (hS g hg) hb.size)
        have HC := Lib.hid hcall
        have HT := Lib.hid hstep
        have htl : (l.take j).length = j := by rw [List.length_take]; omega
        clear hcall hstep hl' hct2 hct3
        go_wp2
        refine wp_region_held_drew (S := fun w' => w'.cell? ⟨g, o + j * 4, none⟩ = some (.int .i64 mk) ∧ w'.cell? ⟨g, o + j * 4 + 1, none⟩ = some (.int .i64 mp) ∧ w'.cell? ⟨g, o + j * 4 + 2, none⟩ = some (.string ⟨mt.toArray⟩) ∧ w'.cell? ⟨g, o + j * 4 + 3, none⟩ = some (.slice A' ml.length c')) (by kernel_rfl) ?_ (fun hHeld0 => ?_)
        · first | assumption | go_keep
        refine wpAnyH_take (i := 0) (oi := { dst := some 11, op := Go.Op.move (Go.Operand.tmp 3), type := 27, pos := "law.go:24", after := #[], guard := none }) (v := ?v_1_0) rfl (by kernel_rfl) (by kernel_rfl) (by kernel_rfl) (fun _ _ _ h => h) (Or.inl ⟨by rfl, ?hy_1_0⟩) (by assumption) ?rest_1_0
        case hy_1_0 => (intro w hSw; (try dsimp only at hSw); go_simp; (try (with_reducible rfl)))
        (try simp only [Act.put, List.setIfInBounds_toArray, List.set_cons_succ, List.set_cons_zero])
        refine wpAnyH_take (i := 1) (oi := { dst := some 12, op := Go.Op.move (Go.Operand.tmp 0), type := 23, pos := "law.go:24", after := #[], guard := none }) (v := ?v_1_1) rfl (by kernel_rfl) (by kernel_rfl) (by kernel_rfl) (fun _ _ _ h => h) (Or.inl ⟨by rfl, ?hy_1_1⟩) (by assumption) ?rest_1_1
        case hy_1_1 => (intro w hSw; (try dsimp only at hSw); go_simp; (try (with_reducible rfl)))
        (try simp only [Act.put, List.setIfInBounds_toArray, List.set_cons_succ, List.set_cons_zero])
        refine wpAnyH_take (i := 2) (oi := { dst := some 13, op := Go.Op.move (Go.Operand.tmp 4), type := 3, pos := "law.go:24", after := #[], guard := none }) (v := ?v_1_2) rfl (by kernel_rfl) (by kernel_rfl) (by kernel_rfl) (fun _ _ _ h => h) (Or.inl ⟨by rfl, ?hy_1_2⟩) (by assumption) ?rest_1_2
        case hy_1_2 => (intro w hSw; (try dsimp only at hSw); go_simp; (try (with_reducible rfl)))
        (try simp only [Act.put, List.setIfInBounds_toArray, List.set_cons_succ, List.set_cons_zero])
        refine wpAnyH_take (i := 3) (oi := { dst := some 14, op := Go.Op.indexAddr 23 (Go.Operand.tmp 12) (Go.Operand.tmp 13), type := 0, pos := "law.go:24", after := #[{ on := 1, ground := Go.Ground.data }, { on := 2, ground := Go.Ground.data }], guard := none }) (v := ?v_1_3) rfl (by kernel_rfl) (by kernel_rfl) (by kernel_rfl) (fun _ _ _ h => h) (Or.inl ⟨by rfl, ?hy_1_3⟩) (by assumption) ?rest_1_3
        case hy_1_3 => (intro w hSw; (try dsimp only at hSw); go_simp; (try (with_reducible rfl)))
        (try simp only [Act.put, List.setIfInBounds_toArray, List.set_cons_succ, List.set_cons_zero])
        refine wpAnyH_take (i := 4) (oi := { dst := some 15, op := Go.Op.fieldAddr 36 (Go.Operand.tmp 14) 0, type := 0, pos := "law.go:24", after := #[{ on := 3, ground := Go.Ground.data }], guard := none }) (v := ?v_1_4) rfl (by kernel_rfl) (by kernel_rfl) (by kernel_rfl) (fun _ _ _ h => h) (Or.inl ⟨by rfl, ?hy_1_4⟩) (by assumption) ?rest_1_4
        case hy_1_4 => (intro w hSw; (try dsimp only at hSw); go_simp; (try (with_reducible rfl)))
        (try simp only [Act.put, List.setIfInBounds_toArray, List.set_cons_succ, List.set_cons_zero])
        refine wpAnyH_take (i := 5) (oi := { dst := some 16, op := Go.Op.load 34 (Go.Operand.tmp 15), type := 34, pos := "law.go:24", after := #[{ on := 4, ground := Go.Ground.data }], guard := none }) (v := ?v_1_5) rfl (by kernel_rfl) (by kernel_rfl) (by kernel_rfl) (fun _ _ _ h => h) (Or.inl ⟨by rfl, ?hy_1_5⟩) (by assumption) ?rest_1_5
        case hy_1_5 => (intro w hSw; (try dsimp only at hSw); go_simp; (try (with_reducible rfl)))
        (try simp only [Act.put, List.setIfInBounds_toArray, List.set_cons_succ, List.set_cons_zero])
        refine wpAnyH_take (i := 6) (oi := { dst := some 17, op := Go.Op.move (Go.Operand.tmp 0), type := 23, pos := "law.go:24", after := #[], guard := none }) (v := ?v_1_6) rfl (by kernel_rfl) (by kernel_rfl) (by kernel_rfl) (fun _ _ _ h => h) (Or.inl ⟨by rfl, ?hy_1_6⟩) (by assumption) ?rest_1_6
        case hy_1_6 => (intro w hSw; (try dsimp only at hSw); go_simp; (try (with_reducible rfl)))
        (try simp only [Act.put, List.setIfInBounds_toArray, List.set_cons_succ, List.set_cons_zero])
        refine wpAnyH_take (i := 7) (oi := { dst := some 18, op := Go.Op.move (Go.Operand.tmp 4), type := 3, pos := "law.go:24", after := #[], guard := none }) (v := ?v_1_7) rfl (by kernel_rfl) (by kernel_rfl) (by kernel_rfl) (fun _ _ _ h => h) (Or.inl ⟨by rfl, ?hy_1_7⟩) (by assumption) ?rest_1_7
        case hy_1_7 => (intro w hSw; (try dsimp only at hSw); go_simp; (try (with_reducible rfl)))
        (try simp only [Act.put, List.setIfInBounds_toArray, List.set_cons_succ, List.set_cons_zero])
        refine wpAnyH_take (i := 8) (oi := { dst := some 19, op := Go.Op.indexAddr 23 (Go.Operand.tmp 17) (Go.Operand.tmp 18), type := 0, pos := "law.go:24", after := #[{ on := 6, ground := Go.Ground.data }, { on := 7, ground := Go.Ground.data }], guard := none }) (v := ?v_1_8) rfl (by kernel_rfl) (by kernel_rfl) (by kernel_rfl) (fun _ _ _ h => h) (Or.inl ⟨by rfl, ?hy_1_8⟩) (by assumption) ?rest_1_8
        case hy_1_8 => (intro w hSw; (try dsimp only at hSw); go_simp; (try (with_reducible rfl)))
        (try simp only [Act.put, List.setIfInBounds_toArray, List.set_cons_succ, List.set_cons_zero])
        refine wpAnyH_take (i := 9) (oi := { dst := some 20, op := Go.Op.fieldAddr 36 (Go.Operand.tmp 19) 1, type := 0, pos := "law.go:24", after := #[{ on := 8, ground := Go.Ground.data }], guard := none }) (v := ?v_1_9) rfl (by kernel_rfl) (by kernel_rfl) (by kernel_rfl) (fun _ _ _ h => h) (Or.inl ⟨by rfl, ?hy_1_9⟩) (by assumption) ?rest_1_9
        case hy_1_9 => (intro w hSw; (try dsimp only at hSw); go_simp; (try (with_reducible rfl)))
        (try simp only [Act.put, List.setIfInBounds_toArray, List.set_cons_succ, List.set_cons_zero])
        refine wpAnyH_take (i := 10) (oi := { dst := some 21, op := Go.Op.load 3 (Go.Operand.tmp 20), type := 3, pos := "law.go:24", after := #[{ on := 9, ground := Go.Ground.data }], guard := none }) (v := ?v_1_10) rfl (by kernel_rfl) (by kernel_rfl) (by kernel_rfl) (fun _ _ _ h => h) (Or.inl ⟨by rfl, ?hy_1_10⟩) (by assumption) ?rest_1_10
        case hy_1_10 => (intro w hSw; (try dsimp only at hSw); go_simp; (try (with_reducible rfl)))
        (try simp only [Act.put, List.setIfInBounds_toArray, List.set_cons_succ, List.set_cons_zero])
        refine wpAnyH_take (i := 11) (oi := { dst := some 22, op := Go.Op.move (Go.Operand.tmp 0), type := 23, pos := "law.go:24", after := #[], guard := none }) (v := ?v_1_11) rfl (by kernel_rfl) (by kernel_rfl) (by kernel_rfl) (fun _ _ _ h => h) (Or.inl ⟨by rfl, ?hy_1_11⟩) (by assumption) ?rest_1_11
        case hy_1_11 => (intro w hSw; (try dsimp only at hSw); go_simp; (try (with_reducible rfl)))
        (try simp only [Act.put, List.setIfInBounds_toArray, List.set_cons_succ, List.set_cons_zero])
        refine wpAnyH_take (i := 12) (oi := { dst := some 23, op := Go.Op.move (Go.Operand.tmp 4), type := 3, pos := "law.go:24", after := #[], guard := none }) (v := ?v_1_12) rfl (by kernel_rfl) (by kernel_rfl) (by kernel_rfl) (fun _ _ _ h => h) (Or.inl ⟨by rfl, ?hy_1_12⟩) (by assumption) ?rest_1_12
        case hy_1_12 => (intro w hSw; (try dsimp only at hSw); go_simp; (try (with_reducible rfl)))
        (try simp only [Act.put, List.setIfInBounds_toArray, List.set_cons_succ, List.set_cons_zero])
        refine wpAnyH_take (i := 13) (oi := { dst := some 24, op := Go.Op.indexAddr 23 (Go.Operand.tmp 22) (Go.Operand.tmp 23), type := 0, pos := "law.go:24", after := #[{ on := 11, ground := Go.Ground.data }, { on := 12, ground := Go.Ground.data }], guard := none }) (v := ?v_1_13) rfl (by kernel_rfl) (by kernel_rfl) (by kernel_rfl) (fun _ _ _ h => h) (Or.inl ⟨by rfl, ?hy_1_13⟩) (by assumption) ?rest_1_13
        case hy_1_13 => (intro w hSw; (try dsimp only at hSw); go_simp; (try (with_reducible rfl)))
        (try simp only [Act.put, List.setIfInBounds_toArray, List.set_cons_succ, List.set_cons_zero])
        refine wpAnyH_take (i := 14) (oi := { dst := some 25, op := Go.Op.fieldAddr 36 (Go.Operand.tmp 24) 2, type := 0, pos := "law.go:24", after := #[{ on := 13, ground := Go.Ground.data }], guard := none }) (v := ?v_1_14) rfl (by kernel_rfl) (by kernel_rfl) (by kernel_rfl) (fun _ _ _ h => h) (Or.inl ⟨by rfl, ?hy_1_14⟩) (by assumption) ?rest_1_14
        case hy_1_14 => (intro w hSw; (try dsimp only at hSw); go_simp; (try (with_reducible rfl)))
        (try simp only [Act.put, List.setIfInBounds_toArray, List.set_cons_succ, List.set_cons_zero])
        refine wpAnyH_take (i := 15) (oi := { dst := some 26, op := Go.Op.load 9 (Go.Operand.tmp 25), type := 9, pos := "law.go:24", after := #[{ on := 14, ground := Go.Ground.data }], guard := none }) (v := ?v_1_15) rfl (by kernel_rfl) (by kernel_rfl) (by kernel_rfl) (fun _ _ _ h => h) (Or.inl ⟨by rfl, ?hy_1_15⟩) (by assumption) ?rest_1_15
        case hy_1_15 => (intro w hSw; (try dsimp only at hSw); go_simp; (try (with_reducible rfl)))
        (try simp only [Act.put, List.setIfInBounds_toArray, List.set_cons_succ, List.set_cons_zero])
        refine wpAnyH_take (i := 16) (oi := { dst := some 27, op := Go.Op.move (Go.Operand.tmp 0), type := 23, pos := "law.go:24", after := #[], guard := none }) (v := ?v_1_16) rfl (by kernel_rfl) (by kernel_rfl) (by kernel_rfl) (fun _ _ _ h => h) (Or.inl ⟨by rfl, ?hy_1_16⟩) (by assumption) ?rest_1_16
        case hy_1_16 => (intro w hSw; (try dsimp only at hSw); go_simp; (try (with_reducible rfl)))
        (try simp only [Act.put, List.setIfInBounds_toArray, List.set_cons_succ, List.set_cons_zero])
        refine wpAnyH_take (i := 17) (oi := { dst := some 28, op := Go.Op.move (Go.Operand.tmp 4), type := 3, pos := "law.go:24", after := #[], guard := none }) (v := ?v_1_17) rfl (by kernel_rfl) (by kernel_rfl) (by kernel_rfl) (fun _ _ _ h => h) (Or.inl ⟨by rfl, ?hy_1_17⟩) (by assumption) ?rest_1_17
        case hy_1_17 => (intro w hSw; (try dsimp only at hSw); go_simp; (try (with_reducible rfl)))
        (try simp only [Act.put, List.setIfInBounds_toArray, List.set_cons_succ, List.set_cons_zero])
        refine wpAnyH_take (i := 18) (oi := { dst := some 29, op := Go.Op.indexAddr 23 (Go.Operand.tmp 27) (Go.Operand.tmp 28), type := 0, pos := "law.go:24", after := #[{ on := 16, ground := Go.Ground.data }, { on := 17, ground := Go.Ground.data }], guard := none }) (v := ?v_1_18) rfl (by kernel_rfl) (by kernel_rfl) (by kernel_rfl) (fun _ _ _ h => h) (Or.inl ⟨by rfl, ?hy_1_18⟩) (by assumption) ?rest_1_18
        case hy_1_18 => (intro w hSw; (try dsimp only at hSw); go_simp; (try (with_reducible rfl)))
        (try simp only [Act.put, List.setIfInBounds_toArray, List.set_cons_succ, List.set_cons_zero])
        refine wpAnyH_take (i := 19) (oi := { dst := some 30, op := Go.Op.fieldAddr 36 (Go.Operand.tmp 29) 3, type := 0, pos := "law.go:24", after := #[{ on := 18, ground := Go.Ground.data }], guard := none }) (v := ?v_1_19) rfl (by kernel_rfl) (by kernel_rfl) (by kernel_rfl) (fun _ _ _ h => h) (Or.inl ⟨by rfl, ?hy_1_19⟩) (by assumption) ?rest_1_19
        case hy_1_19 => (intro w hSw; (try dsimp only at hSw); go_simp; (try (with_reducible rfl)))
        (try simp only [Act.put, List.setIfInBounds_toArray, List.set_cons_succ, List.set_cons_zero])
        refine wpAnyH_take (i := 20) (oi := { dst := some 31, op := Go.Op.load 23 (Go.Operand.tmp 30), type := 23, pos := "law.go:24", after := #[{ on := 19, ground := Go.Ground.data }], guard := none }) (v := ?v_1_20) rfl (by kernel_rfl) (by kernel_rfl) (by kernel_rfl) (fun _ _ _ h => h) (Or.inl ⟨by rfl, ?hy_1_20⟩) (by assumption) ?rest_1_20
        case hy_1_20 => (intro w hSw; (try dsimp only at hSw); go_simp; (try (with_reducible rfl)))
        (try simp only [Act.put, List.setIfInBounds_toArray, List.set_cons_succ, List.set_cons_zero])
        refine wpAnyH_ready (rs := [21]) (by kernel_rfl) (by simp) ?_
        refine AllReadyH.cons (o := { dst := some 32, op := Go.Op.call { callee := Go.Callee.value (Go.Operand.func 12), args := #[Go.Operand.tmp 31], argTypes := #[23] }, type := 27, pos := "law.go:24", after := #[{ on := 20, ground := Go.Ground.data }], guard := none }) rfl (fun K hK => ?_) AllReadyH.nil
        go_simp
        (go_at_call 12; refine (HC.out.mono ?_); rintro e w2 ⟨A2, c2, rfl, hl2, hcc2, hcm2, hb2⟩; have hr2 := hrow.drew.below hb2 (Nat.le_refl _); have hb3 : Below w.heap.size w w2 := hb.drew.trans (hb2.mono hb.size); have e0 := (hb2.cell (p := ⟨g, o + j * 4, none⟩) (show g < wr.drew.heap.size from hgl2)).trans d0; have e1 := (hb2.cell (p := ⟨g, o + j * 4 + 1, none⟩) (show g < wr.drew.heap.size from hgl2)).trans d1; have e2 := (hb2.cell (p := ⟨g, o + j * 4 + 2, none⟩) (show g < wr.drew.heap.size from hgl2)).trans d2; have e3 := (hb2.cell (p := ⟨g, o + j * 4 + 3, none⟩) (show g < wr.drew.heap.size from hgl2)).trans d3; have hk2 := kids_of' hrow.drew hb.size hl2; have hn0 := Nat.lt_of_lt_of_le (show g < wr.drew.heap.size from hgl2) hb2.size; have hne := Nat.ne_of_lt hn0; have hsz2 := hb3.size; clear hl2)
        (try dsimp only)
        refine hK.out _ _ ?_ (fun hHeld1 => ?_)
        · (try dsimp only); first | assumption | trivial | go_keep
        clear hK K hHeld0
        (try simp only [Act.put, List.setIfInBounds_toArray, List.set_cons_succ, List.set_cons_zero])
        refine wpAnyH_take (i := 22) (oi := { dst := some 33, op := Go.Op.build 43 #[(0, Go.Operand.tmp 16), (1, Go.Operand.tmp 21), (2, Go.Operand.tmp 26), (3, Go.Operand.tmp 32)], type := 43, pos := "law.go:24", after := #[{ on := 5, ground := Go.Ground.data }, { on := 10, ground := Go.Ground.data }, { on := 15, ground := Go.Ground.data }, { on := 21, ground := Go.Ground.data }], guard := none }) (v := ?v_1_22) rfl (by kernel_rfl) (by kernel_rfl) (by kernel_rfl) (fun _ _ _ h => h) (Or.inl ⟨by rfl, ?hy_1_22⟩) (by assumption) ?rest_1_22
        case hy_1_22 => (intro w hSw; (try dsimp only at hSw); go_simp; (try (with_reducible rfl)))
        (try simp only [Act.put, List.setIfInBounds_toArray, List.set_cons_succ, List.set_cons_zero])
        refine wpAnyH_ready (rs := [23]) (by kernel_rfl) (by simp) ?_
        refine AllReadyH.cons (o := { dst := some 34, op := Go.Op.buildSlice 27 1 #[(0, Go.Operand.tmp 33)], type := 27, pos := "law.go:24", after := #[{ on := 22, ground := Go.Ground.data }], guard := none }) rfl (fun K hK => ?_) AllReadyH.nil
        go_simp
        skip
        (try dsimp only)
        refine hK.out _ _ ?_ (fun hHeld2 => ?_)
        · (try dsimp only); first | assumption | trivial | go_keep
        clear hK K hHeld1
        (try simp only [Act.put, List.setIfInBounds_toArray, List.set_cons_succ, List.set_cons_zero])
        refine wpAnyH_ready (rs := [24]) (by kernel_rfl) (by simp) ?_
        refine AllReadyH.cons (o := { dst := some 35, op := Go.Op.call { callee := Go.Callee.builtin Go.Builtin.append, args := #[Go.Operand.tmp 11, Go.Operand.tmp 34], argTypes := #[27, 27] }, type := 27, pos := "law.go:24", after := #[{ on := 0, ground := Go.Ground.data }, { on := 23, ground := Go.Ground.data }, { on := 21, ground := Go.Ground.chain }], guard := none }) rfl (fun K hK => ?_) AllReadyH.nil
        (refine step_node w2 (by rfl) (.tmp 11) (.tmp 34) 27 43 (by rfl) Try.underlying27 (by kernel_rfl) w.heap.size (.slice Ar j cr) (l.take j) mk mp mt A2 ml c2 (by rfl) hr2 w2.heap.size rfl (by rfl) hk2 ⟨hcc2, hcm2⟩ (by rw [List.length_take]; omega) hsz2 ?_; intro A3 c3 w3 hr3 hb4 _; have f0 := (hb4.cell (p := ⟨g, o + j * 4, none⟩) hgl).trans e0; have f1 := (hb4.cell (p := ⟨g, o + j * 4 + 1, none⟩) hgl).trans e1; have f2 := (hb4.cell (p := ⟨g, o + j * 4 + 2, none⟩) hgl).trans e2; have f3 := (hb4.cell (p := ⟨g, o + j * 4 + 3, none⟩) hgl).trans e3)
        (try dsimp only)
        refine hK.out _ _ ?_ (fun hHeld3 => ?_)
        · (try dsimp only); first | assumption | trivial | go_keep
        clear hK K hHeld2
        (try simp only [Act.put, List.setIfInBounds_toArray, List.set_cons_succ, List.set_cons_zero])
        refine wpAnyH_take (i := 25) (oi := { dst := some 3, op := Go.Op.assign (Go.Operand.tmp 35), type := 27, pos := "law.go:24", after := #[{ on := 24, ground := Go.Ground.data }, { on := 24, ground := Go.Ground.chain }, { on := 0, ground := Go.Ground.phase }, { on := 1, ground := Go.Ground.phase }, { on := 2, ground := Go.Ground.phase }, { on := 3, ground := Go.Ground.phase }, { on := 4, ground := Go.Ground.phase }, { on := 5, ground := Go.Ground.phase }, { on := 6, ground := Go.Ground.phase }, { on := 7, ground := Go.Ground.phase }, { on := 8, ground := Go.Ground.phase }, { on := 9, ground := Go.Ground.phase }, { on := 10, ground := Go.Ground.phase }, { on := 11, ground := Go.Ground.phase }, { on := 12, ground := Go.Ground.phase }, { on := 13, ground := Go.Ground.phase }, { on := 14, ground := Go.Ground.phase }, { on := 15, ground := Go.Ground.phase }, { on := 16, ground := Go.Ground.phase }, { on := 17, ground := Go.Ground.phase }, { on := 18, ground := Go.Ground.phase }, { on := 19, ground := Go.Ground.phase }, { on := 20, ground := Go.Ground.phase }, { on := 21, ground := Go.Ground.phase }, { on := 22, ground := Go.Ground.phase }, { on := 23, ground := Go.Ground.phase }, { on := 24, ground := Go.Ground.phase }], guard := none }) (v := ?v_1_25) rfl (by kernel_rfl) (by kernel_rfl) (by kernel_rfl) (fun _ _ _ h => h) (Or.inl ⟨by rfl, ?hy_1_25⟩) (by assumption) ?rest_1_25
        case hy_1_25 => (intro w hSw; (try dsimp only at hSw); go_simp; (try (with_reducible rfl)))
        (try simp only [Act.put, List.setIfInBounds_toArray, List.set_cons_succ, List.set_cons_zero])
        refine wpAnyH_done (by kernel_rfl) ?_ _

        simp only [htl]
        rw [htl, ← HT.out] at hr3
        have hb5 := hb3.trans hb4
        go_wp2
        go_roundw
        case rel => exact ⟨j + 1, A3, c3, by omega, rfl, by go_num, hr3, hb5⟩
        case measure => simp [intOf]; omega
      · obtain rfl : j = l.length := by omega
        rw [List.take_length] at hrow
        have hL := hrow.lies
        have hC := hrow.cap
        go_wp2
        go_ret
        exact ⟨Ar, cr, rfl, hL, hC.2.1, hC.2.2, hb⟩
set_option maxHeartbeats 2000000 in
set_option maxRecDepth 100000 in
theorem given_any : ∀ (f : Nat) (l : List Tr), Tree.counts l < f → Tree.counts l ≤ 1000000 → ∀ (A : Option Addr) (c : Nat) (S : Nat → Prop) (w : World), Lies w S A l → (∀ g, S g → g < w.heap.size) →
    Calls Try.prog 16 #[.slice A l.length c] w fun e w' => ∃ A' c', e = .returned (.slice A' l.length c') ∧ Lies w' (Fresh w.heap.size w') A' l ∧ l.length ≤ c' ∧ c' ≤ maxLen ∧ Below w.heap.size w w' := by
  intro f
  induction f with
  | zero => intro l h; omega
  | succ f ih =>
    intro l hf hct A c S w hl hS
    have hll := Tree.len_le_counts l
    have HL := Lib.hid hl
    clear hl
    go_enter Try.func16, Try.ntmps16
    go_wp2
    go_loopw [3, 4] (fun a i wr => ∃ (j : Nat) (Ar : Option Addr) (cr : Nat), j ≤ l.length ∧ a = .slice Ar j cr ∧ i = .int .i64 j ∧ NRow wr w.heap.size 36 (.slice Ar j cr) (l.take j) ∧ Below w.heap.size w wr) (fun _ i _ => l.length - (intOf i).toNat)
    case atStart => exact ⟨0, none, 0, by omega, rfl, rfl, by rw [List.take_zero]; exact NRow.nil _ _ _, Below.refl _ _⟩
    case round =>
      obtain ⟨j, Ar, cr, hj, rfl, rfl, hrow, hb⟩ := hrel
      by_cases hjl : j < l.length
      · obtain ⟨g, o, rfl, hg, c0, c1, c2, A', c', c3, hl', -⟩ := HL.out.get j hjl
        have hsz := hb.size
        have hgl := hS _ hg
        have hgl2 := Nat.lt_of_lt_of_le hgl hsz
        have d0 := (hb.cell (p := ⟨g, o + j * 4, none⟩) hgl).trans c0
        have d1 := (hb.cell (p := ⟨g, o + j * 4 + 1, none⟩) hgl).trans c1
        have d2 := (hb.cell (p := ⟨g, o + j * 4 + 2, none⟩) hgl).trans c2
        have d3 := (hb.cell (p := ⟨g, o + j * 4 + 3, none⟩) hgl).trans c3
        have hi0 : (0 : Int) ≤ (j : Int) := Int.natCast_nonneg _
        have hi1 : (j : Int) < (l.length : Int) := by omega
        have hstep := List.take_succ_eq_append_getElem hjl
        have hct2 := Tree.counts_take l j hjl
        have hct3 := Tree.counts_take_le l (j + 1)
        obtain ⟨x, hx⟩ : ∃ x, l[j] = x := ⟨_, rfl⟩
        rw [hx] at d0 d1 d2 d3 hl' hstep hct2
        clear c0 c1 c2 c3 hx
        obtain ⟨mk, mp, mt, ml⟩ := x
        dsimp only [Tree.Tr.kind, Tree.Tr.pos, Tree.Tr.text, Tree.Tr.l] at d0 d1 d2 d3 hl'
        rw [show Tree.count (.mk mk mp mt ml) = 1 + Tree.counts ml from by rw [Tree.count]] at hct2
        have hcall := ih ml (by omega) (by omega) A' c' S wr.drew (hl'.keep (fun g hg => hb.drew.block g (hS g hg)) (fun _ h => h)) (fun g hg => Nat.lt_of_lt_of_le (hS g hg) hb.size)
        have HC := Lib.hid hcall
        have HT := Lib.hid hstep
        have htl : (l.take j).length = j := by rw [List.length_take]; omega
        clear hcall hstep hl' hct2 hct3
        go_wp2
        refine wp_region_held_drew (S := fun w' => w'.cell? ⟨g, o + j * 4, none⟩ = some (.int .i64 mk) ∧ w'.cell? ⟨g, o + j * 4 + 1, none⟩ = some (.int .i64 mp) ∧ w'.cell? ⟨g, o + j * 4 + 2, none⟩ = some (.string ⟨mt.toArray⟩) ∧ w'.cell? ⟨g, o + j * 4 + 3, none⟩ = some (.slice A' ml.length c')) (by kernel_rfl) ?_ (fun hHeld0 => ?_)
        · first | assumption | go_keep
        refine wpAnyH_take (i := 0) (oi := { dst := some 11, op := Go.Op.move (Go.Operand.tmp 3), type := 23, pos := "law.go:33", after := #[], guard := none }) (v := ?v_2_0) rfl (by kernel_rfl) (by kernel_rfl) (by kernel_rfl) (fun _ _ _ h => h) (Or.inl ⟨by rfl, ?hy_2_0⟩) (by assumption) ?rest_2_0
        case hy_2_0 => (intro w hSw; (try dsimp only at hSw); go_simp; (try (with_reducible rfl)))
        (try simp only [Act.put, List.setIfInBounds_toArray, List.set_cons_succ, List.set_cons_zero])
        refine wpAnyH_take (i := 1) (oi := { dst := some 12, op := Go.Op.move (Go.Operand.tmp 0), type := 27, pos := "law.go:33", after := #[], guard := none }) (v := ?v_2_1) rfl (by kernel_rfl) (by kernel_rfl) (by kernel_rfl) (fun _ _ _ h => h) (Or.inl ⟨by rfl, ?hy_2_1⟩) (by assumption) ?rest_2_1
        case hy_2_1 => (intro w hSw; (try dsimp only at hSw); go_simp; (try (with_reducible rfl)))
        (try simp only [Act.put, List.setIfInBounds_toArray, List.set_cons_succ, List.set_cons_zero])
        refine wpAnyH_take (i := 2) (oi := { dst := some 13, op := Go.Op.move (Go.Operand.tmp 4), type := 3, pos := "law.go:33", after := #[], guard := none }) (v := ?v_2_2) rfl (by kernel_rfl) (by kernel_rfl) (by kernel_rfl) (fun _ _ _ h => h) (Or.inl ⟨by rfl, ?hy_2_2⟩) (by assumption) ?rest_2_2
        case hy_2_2 => (intro w hSw; (try dsimp only at hSw); go_simp; (try (with_reducible rfl)))
        (try simp only [Act.put, List.setIfInBounds_toArray, List.set_cons_succ, List.set_cons_zero])
        refine wpAnyH_take (i := 3) (oi := { dst := some 14, op := Go.Op.indexAddr 27 (Go.Operand.tmp 12) (Go.Operand.tmp 13), type := 0, pos := "law.go:33", after := #[{ on := 1, ground := Go.Ground.data }, { on := 2, ground := Go.Ground.data }], guard := none }) (v := ?v_2_3) rfl (by kernel_rfl) (by kernel_rfl) (by kernel_rfl) (fun _ _ _ h => h) (Or.inl ⟨by rfl, ?hy_2_3⟩) (by assumption) ?rest_2_3
        case hy_2_3 => (intro w hSw; (try dsimp only at hSw); go_simp; (try (with_reducible rfl)))
        (try simp only [Act.put, List.setIfInBounds_toArray, List.set_cons_succ, List.set_cons_zero])
        refine wpAnyH_take (i := 4) (oi := { dst := some 15, op := Go.Op.fieldAddr 43 (Go.Operand.tmp 14) 0, type := 0, pos := "law.go:33", after := #[{ on := 3, ground := Go.Ground.data }], guard := none }) (v := ?v_2_4) rfl (by kernel_rfl) (by kernel_rfl) (by kernel_rfl) (fun _ _ _ h => h) (Or.inl ⟨by rfl, ?hy_2_4⟩) (by assumption) ?rest_2_4
        case hy_2_4 => (intro w hSw; (try dsimp only at hSw); go_simp; (try (with_reducible rfl)))
        (try simp only [Act.put, List.setIfInBounds_toArray, List.set_cons_succ, List.set_cons_zero])
        refine wpAnyH_take (i := 5) (oi := { dst := some 16, op := Go.Op.load 3 (Go.Operand.tmp 15), type := 3, pos := "law.go:33", after := #[{ on := 4, ground := Go.Ground.data }], guard := none }) (v := ?v_2_5) rfl (by kernel_rfl) (by kernel_rfl) (by kernel_rfl) (fun _ _ _ h => h) (Or.inl ⟨by rfl, ?hy_2_5⟩) (by assumption) ?rest_2_5
        case hy_2_5 => (intro w hSw; (try dsimp only at hSw); go_simp; (try (with_reducible rfl)))
        (try simp only [Act.put, List.setIfInBounds_toArray, List.set_cons_succ, List.set_cons_zero])
        refine wpAnyH_take (i := 6) (oi := { dst := some 17, op := Go.Op.move (Go.Operand.tmp 0), type := 27, pos := "law.go:33", after := #[], guard := none }) (v := ?v_2_6) rfl (by kernel_rfl) (by kernel_rfl) (by kernel_rfl) (fun _ _ _ h => h) (Or.inl ⟨by rfl, ?hy_2_6⟩) (by assumption) ?rest_2_6
        case hy_2_6 => (intro w hSw; (try dsimp only at hSw); go_simp; (try (with_reducible rfl)))
        (try simp only [Act.put, List.setIfInBounds_toArray, List.set_cons_succ, List.set_cons_zero])
        refine wpAnyH_take (i := 7) (oi := { dst := some 18, op := Go.Op.move (Go.Operand.tmp 4), type := 3, pos := "law.go:33", after := #[], guard := none }) (v := ?v_2_7) rfl (by kernel_rfl) (by kernel_rfl) (by kernel_rfl) (fun _ _ _ h => h) (Or.inl ⟨by rfl, ?hy_2_7⟩) (by assumption) ?rest_2_7
        case hy_2_7 => (intro w hSw; (try dsimp only at hSw); go_simp; (try (with_reducible rfl)))
        (try simp only [Act.put, List.setIfInBounds_toArray, List.set_cons_succ, List.set_cons_zero])
        refine wpAnyH_take (i := 8) (oi := { dst := some 19, op := Go.Op.indexAddr 27 (Go.Operand.tmp 17) (Go.Operand.tmp 18), type := 0, pos := "law.go:33", after := #[{ on := 6, ground := Go.Ground.data }, { on := 7, ground := Go.Ground.data }], guard := none }) (v := ?v_2_8) rfl (by kernel_rfl) (by kernel_rfl) (by kernel_rfl) (fun _ _ _ h => h) (Or.inl ⟨by rfl, ?hy_2_8⟩) (by assumption) ?rest_2_8
        case hy_2_8 => (intro w hSw; (try dsimp only at hSw); go_simp; (try (with_reducible rfl)))
        (try simp only [Act.put, List.setIfInBounds_toArray, List.set_cons_succ, List.set_cons_zero])
        refine wpAnyH_take (i := 9) (oi := { dst := some 20, op := Go.Op.fieldAddr 43 (Go.Operand.tmp 19) 1, type := 0, pos := "law.go:33", after := #[{ on := 8, ground := Go.Ground.data }], guard := none }) (v := ?v_2_9) rfl (by kernel_rfl) (by kernel_rfl) (by kernel_rfl) (fun _ _ _ h => h) (Or.inl ⟨by rfl, ?hy_2_9⟩) (by assumption) ?rest_2_9
        case hy_2_9 => (intro w hSw; (try dsimp only at hSw); go_simp; (try (with_reducible rfl)))
        (try simp only [Act.put, List.setIfInBounds_toArray, List.set_cons_succ, List.set_cons_zero])
        refine wpAnyH_take (i := 10) (oi := { dst := some 21, op := Go.Op.load 3 (Go.Operand.tmp 20), type := 3, pos := "law.go:33", after := #[{ on := 9, ground := Go.Ground.data }], guard := none }) (v := ?v_2_10) rfl (by kernel_rfl) (by kernel_rfl) (by kernel_rfl) (fun _ _ _ h => h) (Or.inl ⟨by rfl, ?hy_2_10⟩) (by assumption) ?rest_2_10
        case hy_2_10 => (intro w hSw; (try dsimp only at hSw); go_simp; (try (with_reducible rfl)))
        (try simp only [Act.put, List.setIfInBounds_toArray, List.set_cons_succ, List.set_cons_zero])
        refine wpAnyH_take (i := 11) (oi := { dst := some 22, op := Go.Op.move (Go.Operand.tmp 0), type := 27, pos := "law.go:33", after := #[], guard := none }) (v := ?v_2_11) rfl (by kernel_rfl) (by kernel_rfl) (by kernel_rfl) (fun _ _ _ h => h) (Or.inl ⟨by rfl, ?hy_2_11⟩) (by assumption) ?rest_2_11
        case hy_2_11 => (intro w hSw; (try dsimp only at hSw); go_simp; (try (with_reducible rfl)))
        (try simp only [Act.put, List.setIfInBounds_toArray, List.set_cons_succ, List.set_cons_zero])
        refine wpAnyH_take (i := 12) (oi := { dst := some 23, op := Go.Op.move (Go.Operand.tmp 4), type := 3, pos := "law.go:33", after := #[], guard := none }) (v := ?v_2_12) rfl (by kernel_rfl) (by kernel_rfl) (by kernel_rfl) (fun _ _ _ h => h) (Or.inl ⟨by rfl, ?hy_2_12⟩) (by assumption) ?rest_2_12
        case hy_2_12 => (intro w hSw; (try dsimp only at hSw); go_simp; (try (with_reducible rfl)))
        (try simp only [Act.put, List.setIfInBounds_toArray, List.set_cons_succ, List.set_cons_zero])
        refine wpAnyH_take (i := 13) (oi := { dst := some 24, op := Go.Op.indexAddr 27 (Go.Operand.tmp 22) (Go.Operand.tmp 23), type := 0, pos := "law.go:33", after := #[{ on := 11, ground := Go.Ground.data }, { on := 12, ground := Go.Ground.data }], guard := none }) (v := ?v_2_13) rfl (by kernel_rfl) (by kernel_rfl) (by kernel_rfl) (fun _ _ _ h => h) (Or.inl ⟨by rfl, ?hy_2_13⟩) (by assumption) ?rest_2_13
        case hy_2_13 => (intro w hSw; (try dsimp only at hSw); go_simp; (try (with_reducible rfl)))
        (try simp only [Act.put, List.setIfInBounds_toArray, List.set_cons_succ, List.set_cons_zero])
        refine wpAnyH_take (i := 14) (oi := { dst := some 25, op := Go.Op.fieldAddr 43 (Go.Operand.tmp 24) 2, type := 0, pos := "law.go:33", after := #[{ on := 13, ground := Go.Ground.data }], guard := none }) (v := ?v_2_14) rfl (by kernel_rfl) (by kernel_rfl) (by kernel_rfl) (fun _ _ _ h => h) (Or.inl ⟨by rfl, ?hy_2_14⟩) (by assumption) ?rest_2_14
        case hy_2_14 => (intro w hSw; (try dsimp only at hSw); go_simp; (try (with_reducible rfl)))
        (try simp only [Act.put, List.setIfInBounds_toArray, List.set_cons_succ, List.set_cons_zero])
        refine wpAnyH_take (i := 15) (oi := { dst := some 26, op := Go.Op.load 9 (Go.Operand.tmp 25), type := 9, pos := "law.go:33", after := #[{ on := 14, ground := Go.Ground.data }], guard := none }) (v := ?v_2_15) rfl (by kernel_rfl) (by kernel_rfl) (by kernel_rfl) (fun _ _ _ h => h) (Or.inl ⟨by rfl, ?hy_2_15⟩) (by assumption) ?rest_2_15
        case hy_2_15 => (intro w hSw; (try dsimp only at hSw); go_simp; (try (with_reducible rfl)))
        (try simp only [Act.put, List.setIfInBounds_toArray, List.set_cons_succ, List.set_cons_zero])
        refine wpAnyH_take (i := 16) (oi := { dst := some 27, op := Go.Op.move (Go.Operand.tmp 0), type := 27, pos := "law.go:33", after := #[], guard := none }) (v := ?v_2_16) rfl (by kernel_rfl) (by kernel_rfl) (by kernel_rfl) (fun _ _ _ h => h) (Or.inl ⟨by rfl, ?hy_2_16⟩) (by assumption) ?rest_2_16
        case hy_2_16 => (intro w hSw; (try dsimp only at hSw); go_simp; (try (with_reducible rfl)))
        (try simp only [Act.put, List.setIfInBounds_toArray, List.set_cons_succ, List.set_cons_zero])
        refine wpAnyH_take (i := 17) (oi := { dst := some 28, op := Go.Op.move (Go.Operand.tmp 4), type := 3, pos := "law.go:33", after := #[], guard := none }) (v := ?v_2_17) rfl (by kernel_rfl) (by kernel_rfl) (by kernel_rfl) (fun _ _ _ h => h) (Or.inl ⟨by rfl, ?hy_2_17⟩) (by assumption) ?rest_2_17
        case hy_2_17 => (intro w hSw; (try dsimp only at hSw); go_simp; (try (with_reducible rfl)))
        (try simp only [Act.put, List.setIfInBounds_toArray, List.set_cons_succ, List.set_cons_zero])
        refine wpAnyH_take (i := 18) (oi := { dst := some 29, op := Go.Op.indexAddr 27 (Go.Operand.tmp 27) (Go.Operand.tmp 28), type := 0, pos := "law.go:33", after := #[{ on := 16, ground := Go.Ground.data }, { on := 17, ground := Go.Ground.data }], guard := none }) (v := ?v_2_18) rfl (by kernel_rfl) (by kernel_rfl) (by kernel_rfl) (fun _ _ _ h => h) (Or.inl ⟨by rfl, ?hy_2_18⟩) (by assumption) ?rest_2_18
        case hy_2_18 => (intro w hSw; (try dsimp only at hSw); go_simp; (try (with_reducible rfl)))
        (try simp only [Act.put, List.setIfInBounds_toArray, List.set_cons_succ, List.set_cons_zero])
        refine wpAnyH_take (i := 19) (oi := { dst := some 30, op := Go.Op.fieldAddr 43 (Go.Operand.tmp 29) 3, type := 0, pos := "law.go:33", after := #[{ on := 18, ground := Go.Ground.data }], guard := none }) (v := ?v_2_19) rfl (by kernel_rfl) (by kernel_rfl) (by kernel_rfl) (fun _ _ _ h => h) (Or.inl ⟨by rfl, ?hy_2_19⟩) (by assumption) ?rest_2_19
        case hy_2_19 => (intro w hSw; (try dsimp only at hSw); go_simp; (try (with_reducible rfl)))
        (try simp only [Act.put, List.setIfInBounds_toArray, List.set_cons_succ, List.set_cons_zero])
        refine wpAnyH_take (i := 20) (oi := { dst := some 31, op := Go.Op.load 27 (Go.Operand.tmp 30), type := 27, pos := "law.go:33", after := #[{ on := 19, ground := Go.Ground.data }], guard := none }) (v := ?v_2_20) rfl (by kernel_rfl) (by kernel_rfl) (by kernel_rfl) (fun _ _ _ h => h) (Or.inl ⟨by rfl, ?hy_2_20⟩) (by assumption) ?rest_2_20
        case hy_2_20 => (intro w hSw; (try dsimp only at hSw); go_simp; (try (with_reducible rfl)))
        (try simp only [Act.put, List.setIfInBounds_toArray, List.set_cons_succ, List.set_cons_zero])
        refine wpAnyH_ready (rs := [21]) (by kernel_rfl) (by simp) ?_
        refine AllReadyH.cons (o := { dst := some 32, op := Go.Op.call { callee := Go.Callee.value (Go.Operand.func 16), args := #[Go.Operand.tmp 31], argTypes := #[27] }, type := 23, pos := "law.go:33", after := #[{ on := 20, ground := Go.Ground.data }], guard := none }) rfl (fun K hK => ?_) AllReadyH.nil
        go_simp
        (go_at_call 16; refine (HC.out.mono ?_); rintro e w2 ⟨A2, c2, rfl, hl2, hcc2, hcm2, hb2⟩; have hr2 := hrow.drew.below hb2 (Nat.le_refl _); have hb3 : Below w.heap.size w w2 := hb.drew.trans (hb2.mono hb.size); have e0 := (hb2.cell (p := ⟨g, o + j * 4, none⟩) (show g < wr.drew.heap.size from hgl2)).trans d0; have e1 := (hb2.cell (p := ⟨g, o + j * 4 + 1, none⟩) (show g < wr.drew.heap.size from hgl2)).trans d1; have e2 := (hb2.cell (p := ⟨g, o + j * 4 + 2, none⟩) (show g < wr.drew.heap.size from hgl2)).trans d2; have e3 := (hb2.cell (p := ⟨g, o + j * 4 + 3, none⟩) (show g < wr.drew.heap.size from hgl2)).trans d3; have hk2 := kids_of' hrow.drew hb.size hl2; have hn0 := Nat.lt_of_lt_of_le (show g < wr.drew.heap.size from hgl2) hb2.size; have hne := Nat.ne_of_lt hn0; have hsz2 := hb3.size; clear hl2)
        (try dsimp only)
        refine hK.out _ _ ?_ (fun hHeld1 => ?_)
        · (try dsimp only); first | assumption | trivial | go_keep
        clear hK K hHeld0
        (try simp only [Act.put, List.setIfInBounds_toArray, List.set_cons_succ, List.set_cons_zero])
        refine wpAnyH_take (i := 22) (oi := { dst := some 33, op := Go.Op.build 36 #[(0, Go.Operand.tmp 16), (1, Go.Operand.tmp 21), (2, Go.Operand.tmp 26), (3, Go.Operand.tmp 32)], type := 36, pos := "law.go:33", after := #[{ on := 5, ground := Go.Ground.data }, { on := 10, ground := Go.Ground.data }, { on := 15, ground := Go.Ground.data }, { on := 21, ground := Go.Ground.data }], guard := none }) (v := ?v_2_22) rfl (by kernel_rfl) (by kernel_rfl) (by kernel_rfl) (fun _ _ _ h => h) (Or.inl ⟨by rfl, ?hy_2_22⟩) (by assumption) ?rest_2_22
        case hy_2_22 => (intro w hSw; (try dsimp only at hSw); go_simp; (try (with_reducible rfl)))
        (try simp only [Act.put, List.setIfInBounds_toArray, List.set_cons_succ, List.set_cons_zero])
        refine wpAnyH_ready (rs := [23]) (by kernel_rfl) (by simp) ?_
        refine AllReadyH.cons (o := { dst := some 34, op := Go.Op.buildSlice 23 1 #[(0, Go.Operand.tmp 33)], type := 23, pos := "law.go:33", after := #[{ on := 22, ground := Go.Ground.data }], guard := none }) rfl (fun K hK => ?_) AllReadyH.nil
        go_simp
        skip
        (try dsimp only)
        refine hK.out _ _ ?_ (fun hHeld2 => ?_)
        · (try dsimp only); first | assumption | trivial | go_keep
        clear hK K hHeld1
        (try simp only [Act.put, List.setIfInBounds_toArray, List.set_cons_succ, List.set_cons_zero])
        refine wpAnyH_ready (rs := [24]) (by kernel_rfl) (by simp) ?_
        refine AllReadyH.cons (o := { dst := some 35, op := Go.Op.call { callee := Go.Callee.builtin Go.Builtin.append, args := #[Go.Operand.tmp 11, Go.Operand.tmp 34], argTypes := #[23, 23] }, type := 23, pos := "law.go:33", after := #[{ on := 0, ground := Go.Ground.data }, { on := 23, ground := Go.Ground.data }, { on := 21, ground := Go.Ground.chain }], guard := none }) rfl (fun K hK => ?_) AllReadyH.nil
        (refine step_node w2 (by rfl) (.tmp 11) (.tmp 34) 23 36 (by rfl) Try.underlying23 (by kernel_rfl) w.heap.size (.slice Ar j cr) (l.take j) mk mp mt A2 ml c2 (by rfl) hr2 w2.heap.size rfl (by rfl) hk2 ⟨hcc2, hcm2⟩ (by rw [List.length_take]; omega) hsz2 ?_; intro A3 c3 w3 hr3 hb4 _; have f0 := (hb4.cell (p := ⟨g, o + j * 4, none⟩) hgl).trans e0; have f1 := (hb4.cell (p := ⟨g, o + j * 4 + 1, none⟩) hgl).trans e1; have f2 := (hb4.cell (p := ⟨g, o + j * 4 + 2, none⟩) hgl).trans e2; have f3 := (hb4.cell (p := ⟨g, o + j * 4 + 3, none⟩) hgl).trans e3)
        (try dsimp only)
        refine hK.out _ _ ?_ (fun hHeld3 => ?_)
        · (try dsimp only); first | assumption | trivial | go_keep
        clear hK K hHeld2
        (try simp only [Act.put, List.setIfInBounds_toArray, List.set_cons_succ, List.set_cons_zero])
        refine wpAnyH_take (i := 25) (oi := { dst := some 3, op := Go.Op.assign (Go.Operand.tmp 35), type := 23, pos := "law.go:33", after := #[{ on := 24, ground := Go.Ground.data }, { on := 24, ground := Go.Ground.chain }, { on := 0, ground := Go.Ground.phase }, { on := 1, ground := Go.Ground.phase }, { on := 2, ground := Go.Ground.phase }, { on := 3, ground := Go.Ground.phase }, { on := 4, ground := Go.Ground.phase }, { on := 5, ground := Go.Ground.phase }, { on := 6, ground := Go.Ground.phase }, { on := 7, ground := Go.Ground.phase }, { on := 8, ground := Go.Ground.phase }, { on := 9, ground := Go.Ground.phase }, { on := 10, ground := Go.Ground.phase }, { on := 11, ground := Go.Ground.phase }, { on := 12, ground := Go.Ground.phase }, { on := 13, ground := Go.Ground.phase }, { on := 14, ground := Go.Ground.phase }, { on := 15, ground := Go.Ground.phase }, { on := 16, ground := Go.Ground.phase }, { on := 17, ground := Go.Ground.phase }, { on := 18, ground := Go.Ground.phase }, { on := 19, ground := Go.Ground.phase }, { on := 20, ground := Go.Ground.phase }, { on := 21, ground := Go.Ground.phase }, { on := 22, ground := Go.Ground.phase }, { on := 23, ground := Go.Ground.phase }, { on := 24, ground := Go.Ground.phase }], guard := none }) (v := ?v_2_25) rfl (by kernel_rfl) (by kernel_rfl) (by kernel_rfl) (fun _ _ _ h => h) (Or.inl ⟨by rfl, ?hy_2_25⟩) (by assumption) ?rest_2_25
        case hy_2_25 => (intro w hSw; (try dsimp only at hSw); go_simp; (try (with_reducible rfl)))
        (try simp only [Act.put, List.setIfInBounds_toArray, List.set_cons_succ, List.set_cons_zero])
        refine wpAnyH_done (by kernel_rfl) ?_ _

        simp only [htl]
        rw [htl, ← HT.out] at hr3
        have hb5 := hb3.trans hb4
        go_wp2
        go_roundw
        case rel => exact ⟨j + 1, A3, c3, by omega, rfl, by go_num, hr3, hb5⟩
        case measure => simp [intOf]; omega
      · obtain rfl : j = l.length := by omega
        rw [List.take_length] at hrow
        have hL := hrow.lies
        have hC := hrow.cap
        go_wp2
        go_ret
        exact ⟨Ar, cr, rfl, hL, hC.2.1, hC.2.2, hb⟩
end Go.Proofs.Ytnjhbhbohnjckaa
