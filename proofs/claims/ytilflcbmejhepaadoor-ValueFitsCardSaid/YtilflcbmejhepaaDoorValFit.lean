/-
  Layer 27, the reference: Fit. (Printed by gen_valfit.py.)
-/
import Derived.Test.YtilflcbmejhepaaDoorValListP
import Derived.Deep.RegionHeld3
import Derived.Deep.CutBlock
set_option linter.unusedVariables false
set_option linter.unusedSimpArgs false
namespace Go.Proofs.YtilflcbmejhepaaDoor
open Go.RowKit
open Val (V)

theorem fit_step {l : List V} {ts : List Int} {i : Nat} (ha : i < l.length) (hb : i < ts.length) : Val.fit (l.drop i) (ts.drop i) = (Val.right l[i] && (l[i].t == ts[i]) && Val.fit (l.drop (i + 1)) (ts.drop (i + 1))) := by
  rw [List.drop_eq_getElem_cons ha, List.drop_eq_getElem_cons hb, Val.fit]
theorem fit_no {l : List V} {ts : List Int} (h : l.length ≠ ts.length) : Val.fit l ts = false := by
  rcases hf : Val.fit l ts with _ | _
  · rfl
  · exact absurd (Val.fit_len hf) h

set_option maxHeartbeats 16000000 in
set_option maxRecDepth 100000 in
theorem rfit_any (A1 A2 : Option Addr) (c1 c2 : Nat) (a : List V) (ts : List Int) (w : World) (h1 : RdV w w.heap.size A1 a) (h2 : RdC w w.heap.size A2 (vtys ts)) (hn : ∀ v ∈ a, v.n < 18446744073709551616) (l1 : a.length ≤ 1000000) (l2 : ts.length ≤ 1000000) :
    Calls Tryd.prog 20 #[.slice A1 a.length c1, .slice A2 ts.length c2] w fun e w' => e = .returned (.bool (Val.fit a ts)) ∧ Below w.heap.size w w' := by
  by_cases hl : a.length = ts.length
  · have d0 : ((a.length : Int) != (ts.length : Int)) = false := by simp; omega
    have d1 : (a.length != ts.length) = false := by simp; omega
    have HL := Lib.hid hl
    clear hl
    go_enter Tryd.func20, Tryd.ntmps20
    go_wp2
    go_loopw [5] (fun iv wr => ∃ (i : Nat), iv = .int .i64 (i : Int) ∧ i ≤ a.length ∧ RdV wr w.heap.size A1 a ∧ RdC wr w.heap.size A2 (vtys ts) ∧ Below w.heap.size w wr ∧ Hid (Val.fit (a.drop i) (ts.drop i) = Val.fit a ts)) (fun iv _ => a.length - (intOf iv).toNat)
    case atStart => exact ⟨0, rfl, by omega, h1, h2, Below.refl _ _, by simp [Hid]⟩
    case round =>
      obtain ⟨i, rfl, hi, k1, k2, hB, HR⟩ := hrel
      by_cases hia : i < a.length
      · have hib : i < ts.length := by have := HL.out; omega
        obtain ⟨ga, oa, rfl, hb1, e1⟩ := id k1 (by intro e; rw [e] at hia; simp at hia)
        obtain ⟨gt, ot, rfl, hb2, e2⟩ := id k2 (by intro e; have := congrArg List.length e; simp [vtys] at this; rw [this] at hib; simp at hib)
        obtain ⟨f0, f1⟩ := e1 i hia
        have g0 := e2 i (by simpa [vtys] using hib)
        simp only [vtys, List.getElem_map] at g0
        have hd := fit_step hia hib
        have hvn := hn a[i] (List.getElem_mem _)
        obtain ⟨⟨t, n⟩, hv⟩ : ∃ v, a[i] = v := ⟨_, rfl⟩
        obtain ⟨t', hv'⟩ : ∃ v, ts[i] = v := ⟨_, rfl⟩
        rw [hv] at f0 f1 hd hvn
        rw [hv'] at g0 hd
        dsimp only at f0 f1 hd hvn
        have x0 : (i : Int) < (a.length : Int) := by omega
        have x1 : (i : Int) < (ts.length : Int) := by omega
        have x2 : (0 : Int) ≤ (i : Int) := by omega
        have x3 : decide (i < a.length) = true := by simpa using hia
        have hga : ga < wr.heap.size := by have := hB.size; omega
        have hgt : gt < wr.heap.size := by have := hB.size; omega
        have hc := fun W => rright_any ⟨t, n⟩ hvn W
        unfold vv at hc
        dsimp only at hc
        have HN := Lib.hid hn
        have K1 := Lib.hid k1
        have K2 := Lib.hid k2
        have HBB := Lib.hid hB
        clear hn k1 k2 e1 e2 hv hv' hvn hB
        rcases hr : Val.right ⟨t, n⟩ with _ | _
        · simp only [hr] at hc
          have HC := Lib.hid hc
          have HV : Hid (Val.fit a ts = false) := Lib.hid (by rw [← HR.out, hd, hr]; rfl)
          clear hc hd hr HR
          go_wp2
          refine wp_region_held_drew (S := fun w' => w'.cell? ⟨ga, oa + i * 2, none⟩ = some (.int .i64 t) ∧ w'.cell? ⟨ga, oa + i * 2 + 1, none⟩ = some (.int .u64 (n : Int)) ∧ w'.cell? ⟨gt, ot + i, none⟩ = some (.int .i64 t')) (by kernel_rfl) ?_ (fun hHeld0 => ?_)
          · first | assumption | go_keep
          refine wpAnyH_take (i := 0) (oi := { dst := some 17, op := Go.Op.move (Go.Operand.tmp 0), type := 35, pos := "ref.go:39", after := #[], guard := none }) (v := ?v_4_0) rfl (by kernel_rfl) (by kernel_rfl) (by kernel_rfl) (fun _ _ _ h => h) (Or.inl ⟨by rfl, ?hy_4_0⟩) (by assumption) ?rest_4_0
          case hy_4_0 => (intro w hSw; (try dsimp only at hSw); go_simp; (try (with_reducible rfl)))
          (try simp only [Act.put, List.setIfInBounds_toArray, List.set_cons_succ, List.set_cons_zero])
          refine wpAnyH_take (i := 1) (oi := { dst := some 18, op := Go.Op.move (Go.Operand.tmp 5), type := 3, pos := "ref.go:39", after := #[], guard := none }) (v := ?v_4_1) rfl (by kernel_rfl) (by kernel_rfl) (by kernel_rfl) (fun _ _ _ h => h) (Or.inl ⟨by rfl, ?hy_4_1⟩) (by assumption) ?rest_4_1
          case hy_4_1 => (intro w hSw; (try dsimp only at hSw); go_simp; (try (with_reducible rfl)))
          (try simp only [Act.put, List.setIfInBounds_toArray, List.set_cons_succ, List.set_cons_zero])
          refine wpAnyH_take (i := 2) (oi := { dst := some 19, op := Go.Op.indexAddr 35 (Go.Operand.tmp 17) (Go.Operand.tmp 18), type := 0, pos := "ref.go:39", after := #[{ on := 0, ground := Go.Ground.data }, { on := 1, ground := Go.Ground.data }], guard := none }) (v := ?v_4_2) rfl (by kernel_rfl) (by kernel_rfl) (by kernel_rfl) (fun _ _ _ h => h) (Or.inl ⟨by rfl, ?hy_4_2⟩) (by assumption) ?rest_4_2
          case hy_4_2 => (intro w hSw; (try dsimp only at hSw); go_simp; (try (with_reducible rfl)))
          (try simp only [Act.put, List.setIfInBounds_toArray, List.set_cons_succ, List.set_cons_zero])
          refine wpAnyH_take (i := 3) (oi := { dst := some 20, op := Go.Op.load 25 (Go.Operand.tmp 19), type := 25, pos := "ref.go:39", after := #[{ on := 2, ground := Go.Ground.data }], guard := none }) (v := ?v_4_3) rfl (by kernel_rfl) (by kernel_rfl) (by kernel_rfl) (fun _ _ _ h => h) (Or.inl ⟨by rfl, ?hy_4_3⟩) (by assumption) ?rest_4_3
          case hy_4_3 => (intro w hSw; (try dsimp only at hSw); go_simp; (try (with_reducible rfl)))
          (try simp only [Act.put, List.setIfInBounds_toArray, List.set_cons_succ, List.set_cons_zero])
          refine wpAnyH_ready (rs := [4]) (by kernel_rfl) (by simp) ?_
          refine AllReadyH.cons (o := { dst := some 21, op := Go.Op.call { callee := Go.Callee.value (Go.Operand.func 9), args := #[Go.Operand.tmp 20], argTypes := #[25] }, type := 4, pos := "ref.go:39", after := #[{ on := 3, ground := Go.Ground.data }], guard := none }) rfl (fun K hK => ?_) AllReadyH.nil
          go_simp
          ((with_reducible refine (HC.out _).mono ?_); rintro e w2 ⟨rfl, hb2⟩; have e0 := (hb2.cell (p := ⟨ga, oa + i * 2, none⟩) hga).trans f0; have e1 := (hb2.cell (p := ⟨ga, oa + i * 2 + 1, none⟩) hga).trans f1; have e2 := (hb2.cell (p := ⟨gt, ot + i, none⟩) hgt).trans g0; have HB2 := Lib.hid ((below_drewN wr 1).trans hb2); clear hb2)
          (try dsimp only)
          refine hK.out _ _ ?_ (fun hHeld1 => ?_)
          · first | trivial | ((try dsimp only); first | assumption | trivial | go_keep)
          clear hK K hHeld0
          (try simp only [Act.put, List.setIfInBounds_toArray, List.set_cons_succ, List.set_cons_zero])
          refine wpAnyH_take (i := 5) (oi := { dst := some 22, op := Go.Op.unOp Go.UnOp.not 4 (Go.Operand.tmp 21), type := 4, pos := "ref.go:39", after := #[{ on := 4, ground := Go.Ground.data }], guard := none }) (v := ?v_4_5) rfl (by kernel_rfl) (by kernel_rfl) (by kernel_rfl) (fun _ _ _ h => h) (Or.inl ⟨by rfl, ?hy_4_5⟩) (by assumption) ?rest_4_5
          case hy_4_5 => (intro w hSw; (try dsimp only at hSw); go_simp; (try (with_reducible rfl)))
          (try simp only [Act.put, List.setIfInBounds_toArray, List.set_cons_succ, List.set_cons_zero])
          refine wpAnyH_take (i := 6) (oi := { dst := some 23, op := Go.Op.move (Go.Operand.tmp 22), type := 4, pos := "ref.go:39", after := #[{ on := 5, ground := Go.Ground.data }, { on := 4, ground := Go.Ground.chain }], guard := none }) (v := ?v_4_6) rfl (by kernel_rfl) (by kernel_rfl) (by kernel_rfl) (fun _ _ _ h => h) (Or.inl ⟨by rfl, ?hy_4_6⟩) (by assumption) ?rest_4_6
          case hy_4_6 => (intro w hSw; (try dsimp only at hSw); go_simp; (try (with_reducible rfl)))
          (try simp only [Act.put, List.setIfInBounds_toArray, List.set_cons_succ, List.set_cons_zero])
          refine wpAnyH_take (i := 7) (oi := { dst := some 24, op := Go.Op.move (Go.Operand.tmp 0), type := 35, pos := "ref.go:39", after := #[{ on := 6, ground := Go.Ground.guard }], guard := some (6, false) }) (v := undef) rfl (by kernel_rfl) (by kernel_rfl) (by kernel_rfl) (fun _ _ _ h => h) (Or.inr ⟨by rfl, rfl⟩) (by assumption) ?rest_4_7
          (try simp only [Act.put, List.setIfInBounds_toArray, List.set_cons_succ, List.set_cons_zero])
          refine wpAnyH_take (i := 8) (oi := { dst := some 25, op := Go.Op.move (Go.Operand.tmp 5), type := 3, pos := "ref.go:39", after := #[{ on := 6, ground := Go.Ground.guard }], guard := some (6, false) }) (v := undef) rfl (by kernel_rfl) (by kernel_rfl) (by kernel_rfl) (fun _ _ _ h => h) (Or.inr ⟨by rfl, rfl⟩) (by assumption) ?rest_4_8
          (try simp only [Act.put, List.setIfInBounds_toArray, List.set_cons_succ, List.set_cons_zero])
          refine wpAnyH_take (i := 9) (oi := { dst := some 26, op := Go.Op.indexAddr 35 (Go.Operand.tmp 24) (Go.Operand.tmp 25), type := 0, pos := "ref.go:39", after := #[{ on := 7, ground := Go.Ground.data }, { on := 8, ground := Go.Ground.data }, { on := 6, ground := Go.Ground.guard }], guard := some (6, false) }) (v := undef) rfl (by kernel_rfl) (by kernel_rfl) (by kernel_rfl) (fun _ _ _ h => h) (Or.inr ⟨by rfl, rfl⟩) (by assumption) ?rest_4_9
          (try simp only [Act.put, List.setIfInBounds_toArray, List.set_cons_succ, List.set_cons_zero])
          refine wpAnyH_take (i := 10) (oi := { dst := some 27, op := Go.Op.fieldAddr 25 (Go.Operand.tmp 26) 0, type := 0, pos := "ref.go:39", after := #[{ on := 9, ground := Go.Ground.data }, { on := 6, ground := Go.Ground.guard }], guard := some (6, false) }) (v := undef) rfl (by kernel_rfl) (by kernel_rfl) (by kernel_rfl) (fun _ _ _ h => h) (Or.inr ⟨by rfl, rfl⟩) (by assumption) ?rest_4_10
          (try simp only [Act.put, List.setIfInBounds_toArray, List.set_cons_succ, List.set_cons_zero])
          refine wpAnyH_take (i := 11) (oi := { dst := some 28, op := Go.Op.load 22 (Go.Operand.tmp 27), type := 22, pos := "ref.go:39", after := #[{ on := 10, ground := Go.Ground.data }, { on := 6, ground := Go.Ground.guard }], guard := some (6, false) }) (v := undef) rfl (by kernel_rfl) (by kernel_rfl) (by kernel_rfl) (fun _ _ _ h => h) (Or.inr ⟨by rfl, rfl⟩) (by assumption) ?rest_4_11
          (try simp only [Act.put, List.setIfInBounds_toArray, List.set_cons_succ, List.set_cons_zero])
          refine wpAnyH_take (i := 12) (oi := { dst := some 29, op := Go.Op.move (Go.Operand.tmp 1), type := 36, pos := "ref.go:39", after := #[{ on := 6, ground := Go.Ground.guard }], guard := some (6, false) }) (v := undef) rfl (by kernel_rfl) (by kernel_rfl) (by kernel_rfl) (fun _ _ _ h => h) (Or.inr ⟨by rfl, rfl⟩) (by assumption) ?rest_4_12
          (try simp only [Act.put, List.setIfInBounds_toArray, List.set_cons_succ, List.set_cons_zero])
          refine wpAnyH_take (i := 13) (oi := { dst := some 30, op := Go.Op.move (Go.Operand.tmp 5), type := 3, pos := "ref.go:39", after := #[{ on := 6, ground := Go.Ground.guard }], guard := some (6, false) }) (v := undef) rfl (by kernel_rfl) (by kernel_rfl) (by kernel_rfl) (fun _ _ _ h => h) (Or.inr ⟨by rfl, rfl⟩) (by assumption) ?rest_4_13
          (try simp only [Act.put, List.setIfInBounds_toArray, List.set_cons_succ, List.set_cons_zero])
          refine wpAnyH_take (i := 14) (oi := { dst := some 31, op := Go.Op.indexAddr 36 (Go.Operand.tmp 29) (Go.Operand.tmp 30), type := 0, pos := "ref.go:39", after := #[{ on := 12, ground := Go.Ground.data }, { on := 13, ground := Go.Ground.data }, { on := 6, ground := Go.Ground.guard }], guard := some (6, false) }) (v := undef) rfl (by kernel_rfl) (by kernel_rfl) (by kernel_rfl) (fun _ _ _ h => h) (Or.inr ⟨by rfl, rfl⟩) (by assumption) ?rest_4_14
          (try simp only [Act.put, List.setIfInBounds_toArray, List.set_cons_succ, List.set_cons_zero])
          refine wpAnyH_take (i := 15) (oi := { dst := some 32, op := Go.Op.load 22 (Go.Operand.tmp 31), type := 22, pos := "ref.go:39", after := #[{ on := 14, ground := Go.Ground.data }, { on := 6, ground := Go.Ground.guard }], guard := some (6, false) }) (v := undef) rfl (by kernel_rfl) (by kernel_rfl) (by kernel_rfl) (fun _ _ _ h => h) (Or.inr ⟨by rfl, rfl⟩) (by assumption) ?rest_4_15
          (try simp only [Act.put, List.setIfInBounds_toArray, List.set_cons_succ, List.set_cons_zero])
          refine wpAnyH_take (i := 16) (oi := { dst := some 33, op := Go.Op.binOp Go.BinOp.neq 22 (Go.Operand.tmp 28) (Go.Operand.tmp 32) 22, type := 4, pos := "ref.go:39", after := #[{ on := 11, ground := Go.Ground.data }, { on := 15, ground := Go.Ground.data }, { on := 6, ground := Go.Ground.guard }], guard := some (6, false) }) (v := undef) rfl (by kernel_rfl) (by kernel_rfl) (by kernel_rfl) (fun _ _ _ h => h) (Or.inr ⟨by rfl, rfl⟩) (by assumption) ?rest_4_16
          (try simp only [Act.put, List.setIfInBounds_toArray, List.set_cons_succ, List.set_cons_zero])
          refine wpAnyH_take (i := 17) (oi := { dst := some 34, op := Go.Op.pick (Go.Operand.tmp 23) (Go.Operand.const (Go.Value.bool true)) (Go.Operand.tmp 33), type := 4, pos := "ref.go:39", after := #[{ on := 6, ground := Go.Ground.data }, { on := 16, ground := Go.Ground.data }], guard := none }) (v := ?v_4_17) rfl (by kernel_rfl) (by kernel_rfl) (by kernel_rfl) (fun _ _ _ h => h) (Or.inl ⟨by rfl, ?hy_4_17⟩) (by assumption) ?rest_4_17
          case hy_4_17 => (intro w hSw; (try dsimp only at hSw); go_simp; (try (with_reducible rfl)))
          (try simp only [Act.put, List.setIfInBounds_toArray, List.set_cons_succ, List.set_cons_zero])
          refine wpAnyH_done (by kernel_rfl) ?_ _
          clear e0 e1 e2 hHeld1
          go_wp2
          go_ret
          exact ⟨by rw [HV.out]; rfl, HBB.out.trans (HB2.out.mono HBB.out.size)⟩
        · simp only [hr] at hc
          have HC := Lib.hid hc
          clear hc
          rcases ht : (t == t') with _ | _
          · have q1 : (t != t') = true := by rw [bne, ht]; rfl
            have HV : Hid (Val.fit a ts = false) := Lib.hid (by rw [← HR.out, hd, hr, ht]; rfl)
            clear hd hr HR
            go_wp2
            refine wp_region_held_drew (S := fun w' => w'.cell? ⟨ga, oa + i * 2, none⟩ = some (.int .i64 t) ∧ w'.cell? ⟨ga, oa + i * 2 + 1, none⟩ = some (.int .u64 (n : Int)) ∧ w'.cell? ⟨gt, ot + i, none⟩ = some (.int .i64 t')) (by kernel_rfl) ?_ (fun hHeld0 => ?_)
            · first | assumption | go_keep
            refine wpAnyH_take (i := 0) (oi := { dst := some 17, op := Go.Op.move (Go.Operand.tmp 0), type := 35, pos := "ref.go:39", after := #[], guard := none }) (v := ?v_5_0) rfl (by kernel_rfl) (by kernel_rfl) (by kernel_rfl) (fun _ _ _ h => h) (Or.inl ⟨by rfl, ?hy_5_0⟩) (by assumption) ?rest_5_0
            case hy_5_0 => (intro w hSw; (try dsimp only at hSw); go_simp; (try (with_reducible rfl)))
            (try simp only [Act.put, List.setIfInBounds_toArray, List.set_cons_succ, List.set_cons_zero])
            refine wpAnyH_take (i := 1) (oi := { dst := some 18, op := Go.Op.move (Go.Operand.tmp 5), type := 3, pos := "ref.go:39", after := #[], guard := none }) (v := ?v_5_1) rfl (by kernel_rfl) (by kernel_rfl) (by kernel_rfl) (fun _ _ _ h => h) (Or.inl ⟨by rfl, ?hy_5_1⟩) (by assumption) ?rest_5_1
            case hy_5_1 => (intro w hSw; (try dsimp only at hSw); go_simp; (try (with_reducible rfl)))
            (try simp only [Act.put, List.setIfInBounds_toArray, List.set_cons_succ, List.set_cons_zero])
            refine wpAnyH_take (i := 2) (oi := { dst := some 19, op := Go.Op.indexAddr 35 (Go.Operand.tmp 17) (Go.Operand.tmp 18), type := 0, pos := "ref.go:39", after := #[{ on := 0, ground := Go.Ground.data }, { on := 1, ground := Go.Ground.data }], guard := none }) (v := ?v_5_2) rfl (by kernel_rfl) (by kernel_rfl) (by kernel_rfl) (fun _ _ _ h => h) (Or.inl ⟨by rfl, ?hy_5_2⟩) (by assumption) ?rest_5_2
            case hy_5_2 => (intro w hSw; (try dsimp only at hSw); go_simp; (try (with_reducible rfl)))
            (try simp only [Act.put, List.setIfInBounds_toArray, List.set_cons_succ, List.set_cons_zero])
            refine wpAnyH_take (i := 3) (oi := { dst := some 20, op := Go.Op.load 25 (Go.Operand.tmp 19), type := 25, pos := "ref.go:39", after := #[{ on := 2, ground := Go.Ground.data }], guard := none }) (v := ?v_5_3) rfl (by kernel_rfl) (by kernel_rfl) (by kernel_rfl) (fun _ _ _ h => h) (Or.inl ⟨by rfl, ?hy_5_3⟩) (by assumption) ?rest_5_3
            case hy_5_3 => (intro w hSw; (try dsimp only at hSw); go_simp; (try (with_reducible rfl)))
            (try simp only [Act.put, List.setIfInBounds_toArray, List.set_cons_succ, List.set_cons_zero])
            refine wpAnyH_ready (rs := [4]) (by kernel_rfl) (by simp) ?_
            refine AllReadyH.cons (o := { dst := some 21, op := Go.Op.call { callee := Go.Callee.value (Go.Operand.func 9), args := #[Go.Operand.tmp 20], argTypes := #[25] }, type := 4, pos := "ref.go:39", after := #[{ on := 3, ground := Go.Ground.data }], guard := none }) rfl (fun K hK => ?_) AllReadyH.nil
            go_simp
            ((with_reducible refine (HC.out _).mono ?_); rintro e w2 ⟨rfl, hb2⟩; have e0 := (hb2.cell (p := ⟨ga, oa + i * 2, none⟩) hga).trans f0; have e1 := (hb2.cell (p := ⟨ga, oa + i * 2 + 1, none⟩) hga).trans f1; have e2 := (hb2.cell (p := ⟨gt, ot + i, none⟩) hgt).trans g0; have HB2 := Lib.hid ((below_drewN wr 1).trans hb2); clear hb2)
            (try dsimp only)
            refine hK.out _ _ ?_ (fun hHeld1 => ?_)
            · first | trivial | ((try dsimp only); first | assumption | trivial | go_keep)
            clear hK K hHeld0
            (try simp only [Act.put, List.setIfInBounds_toArray, List.set_cons_succ, List.set_cons_zero])
            refine wpAnyH_take (i := 5) (oi := { dst := some 22, op := Go.Op.unOp Go.UnOp.not 4 (Go.Operand.tmp 21), type := 4, pos := "ref.go:39", after := #[{ on := 4, ground := Go.Ground.data }], guard := none }) (v := ?v_5_5) rfl (by kernel_rfl) (by kernel_rfl) (by kernel_rfl) (fun _ _ _ h => h) (Or.inl ⟨by rfl, ?hy_5_5⟩) (by assumption) ?rest_5_5
            case hy_5_5 => (intro w hSw; (try dsimp only at hSw); go_simp; (try (with_reducible rfl)))
            (try simp only [Act.put, List.setIfInBounds_toArray, List.set_cons_succ, List.set_cons_zero])
            refine wpAnyH_take (i := 6) (oi := { dst := some 23, op := Go.Op.move (Go.Operand.tmp 22), type := 4, pos := "ref.go:39", after := #[{ on := 5, ground := Go.Ground.data }, { on := 4, ground := Go.Ground.chain }], guard := none }) (v := ?v_5_6) rfl (by kernel_rfl) (by kernel_rfl) (by kernel_rfl) (fun _ _ _ h => h) (Or.inl ⟨by rfl, ?hy_5_6⟩) (by assumption) ?rest_5_6
            case hy_5_6 => (intro w hSw; (try dsimp only at hSw); go_simp; (try (with_reducible rfl)))
            (try simp only [Act.put, List.setIfInBounds_toArray, List.set_cons_succ, List.set_cons_zero])
            refine wpAnyH_take (i := 7) (oi := { dst := some 24, op := Go.Op.move (Go.Operand.tmp 0), type := 35, pos := "ref.go:39", after := #[{ on := 6, ground := Go.Ground.guard }], guard := some (6, false) }) (v := ?v_5_7) rfl (by kernel_rfl) (by kernel_rfl) (by kernel_rfl) (fun _ _ _ h => h) (Or.inl ⟨by rfl, ?hy_5_7⟩) (by assumption) ?rest_5_7
            case hy_5_7 => (intro w hSw; (try dsimp only at hSw); go_simp; (try (with_reducible rfl)))
            (try simp only [Act.put, List.setIfInBounds_toArray, List.set_cons_succ, List.set_cons_zero])
            refine wpAnyH_take (i := 8) (oi := { dst := some 25, op := Go.Op.move (Go.Operand.tmp 5), type := 3, pos := "ref.go:39", after := #[{ on := 6, ground := Go.Ground.guard }], guard := some (6, false) }) (v := ?v_5_8) rfl (by kernel_rfl) (by kernel_rfl) (by kernel_rfl) (fun _ _ _ h => h) (Or.inl ⟨by rfl, ?hy_5_8⟩) (by assumption) ?rest_5_8
            case hy_5_8 => (intro w hSw; (try dsimp only at hSw); go_simp; (try (with_reducible rfl)))
            (try simp only [Act.put, List.setIfInBounds_toArray, List.set_cons_succ, List.set_cons_zero])
            refine wpAnyH_take (i := 9) (oi := { dst := some 26, op := Go.Op.indexAddr 35 (Go.Operand.tmp 24) (Go.Operand.tmp 25), type := 0, pos := "ref.go:39", after := #[{ on := 7, ground := Go.Ground.data }, { on := 8, ground := Go.Ground.data }, { on := 6, ground := Go.Ground.guard }], guard := some (6, false) }) (v := ?v_5_9) rfl (by kernel_rfl) (by kernel_rfl) (by kernel_rfl) (fun _ _ _ h => h) (Or.inl ⟨by rfl, ?hy_5_9⟩) (by assumption) ?rest_5_9
            case hy_5_9 => (intro w hSw; (try dsimp only at hSw); go_simp; (try (with_reducible rfl)))
            (try simp only [Act.put, List.setIfInBounds_toArray, List.set_cons_succ, List.set_cons_zero])
            refine wpAnyH_take (i := 10) (oi := { dst := some 27, op := Go.Op.fieldAddr 25 (Go.Operand.tmp 26) 0, type := 0, pos := "ref.go:39", after := #[{ on := 9, ground := Go.Ground.data }, { on := 6, ground := Go.Ground.guard }], guard := some (6, false) }) (v := ?v_5_10) rfl (by kernel_rfl) (by kernel_rfl) (by kernel_rfl) (fun _ _ _ h => h) (Or.inl ⟨by rfl, ?hy_5_10⟩) (by assumption) ?rest_5_10
            case hy_5_10 => (intro w hSw; (try dsimp only at hSw); go_simp; (try (with_reducible rfl)))
            (try simp only [Act.put, List.setIfInBounds_toArray, List.set_cons_succ, List.set_cons_zero])
            refine wpAnyH_take (i := 11) (oi := { dst := some 28, op := Go.Op.load 22 (Go.Operand.tmp 27), type := 22, pos := "ref.go:39", after := #[{ on := 10, ground := Go.Ground.data }, { on := 6, ground := Go.Ground.guard }], guard := some (6, false) }) (v := ?v_5_11) rfl (by kernel_rfl) (by kernel_rfl) (by kernel_rfl) (fun _ _ _ h => h) (Or.inl ⟨by rfl, ?hy_5_11⟩) (by assumption) ?rest_5_11
            case hy_5_11 => (intro w hSw; (try dsimp only at hSw); go_simp; (try (with_reducible rfl)))
            (try simp only [Act.put, List.setIfInBounds_toArray, List.set_cons_succ, List.set_cons_zero])
            refine wpAnyH_take (i := 12) (oi := { dst := some 29, op := Go.Op.move (Go.Operand.tmp 1), type := 36, pos := "ref.go:39", after := #[{ on := 6, ground := Go.Ground.guard }], guard := some (6, false) }) (v := ?v_5_12) rfl (by kernel_rfl) (by kernel_rfl) (by kernel_rfl) (fun _ _ _ h => h) (Or.inl ⟨by rfl, ?hy_5_12⟩) (by assumption) ?rest_5_12
            case hy_5_12 => (intro w hSw; (try dsimp only at hSw); go_simp; (try (with_reducible rfl)))
            (try simp only [Act.put, List.setIfInBounds_toArray, List.set_cons_succ, List.set_cons_zero])
            refine wpAnyH_take (i := 13) (oi := { dst := some 30, op := Go.Op.move (Go.Operand.tmp 5), type := 3, pos := "ref.go:39", after := #[{ on := 6, ground := Go.Ground.guard }], guard := some (6, false) }) (v := ?v_5_13) rfl (by kernel_rfl) (by kernel_rfl) (by kernel_rfl) (fun _ _ _ h => h) (Or.inl ⟨by rfl, ?hy_5_13⟩) (by assumption) ?rest_5_13
            case hy_5_13 => (intro w hSw; (try dsimp only at hSw); go_simp; (try (with_reducible rfl)))
            (try simp only [Act.put, List.setIfInBounds_toArray, List.set_cons_succ, List.set_cons_zero])
            refine wpAnyH_take (i := 14) (oi := { dst := some 31, op := Go.Op.indexAddr 36 (Go.Operand.tmp 29) (Go.Operand.tmp 30), type := 0, pos := "ref.go:39", after := #[{ on := 12, ground := Go.Ground.data }, { on := 13, ground := Go.Ground.data }, { on := 6, ground := Go.Ground.guard }], guard := some (6, false) }) (v := ?v_5_14) rfl (by kernel_rfl) (by kernel_rfl) (by kernel_rfl) (fun _ _ _ h => h) (Or.inl ⟨by rfl, ?hy_5_14⟩) (by assumption) ?rest_5_14
            case hy_5_14 => (intro w hSw; (try dsimp only at hSw); go_simp; (try (with_reducible rfl)))
            (try simp only [Act.put, List.setIfInBounds_toArray, List.set_cons_succ, List.set_cons_zero])
            refine wpAnyH_take (i := 15) (oi := { dst := some 32, op := Go.Op.load 22 (Go.Operand.tmp 31), type := 22, pos := "ref.go:39", after := #[{ on := 14, ground := Go.Ground.data }, { on := 6, ground := Go.Ground.guard }], guard := some (6, false) }) (v := ?v_5_15) rfl (by kernel_rfl) (by kernel_rfl) (by kernel_rfl) (fun _ _ _ h => h) (Or.inl ⟨by rfl, ?hy_5_15⟩) (by assumption) ?rest_5_15
            case hy_5_15 => (intro w hSw; (try dsimp only at hSw); go_simp; (try (with_reducible rfl)))
            (try simp only [Act.put, List.setIfInBounds_toArray, List.set_cons_succ, List.set_cons_zero])
            refine wpAnyH_take (i := 16) (oi := { dst := some 33, op := Go.Op.binOp Go.BinOp.neq 22 (Go.Operand.tmp 28) (Go.Operand.tmp 32) 22, type := 4, pos := "ref.go:39", after := #[{ on := 11, ground := Go.Ground.data }, { on := 15, ground := Go.Ground.data }, { on := 6, ground := Go.Ground.guard }], guard := some (6, false) }) (v := ?v_5_16) rfl (by kernel_rfl) (by kernel_rfl) (by kernel_rfl) (fun _ _ _ h => h) (Or.inl ⟨by rfl, ?hy_5_16⟩) (by assumption) ?rest_5_16
            case hy_5_16 => (intro w hSw; (try dsimp only at hSw); go_simp; (try (with_reducible rfl)))
            (try simp only [Act.put, List.setIfInBounds_toArray, List.set_cons_succ, List.set_cons_zero])
            refine wpAnyH_take (i := 17) (oi := { dst := some 34, op := Go.Op.pick (Go.Operand.tmp 23) (Go.Operand.const (Go.Value.bool true)) (Go.Operand.tmp 33), type := 4, pos := "ref.go:39", after := #[{ on := 6, ground := Go.Ground.data }, { on := 16, ground := Go.Ground.data }], guard := none }) (v := ?v_5_17) rfl (by kernel_rfl) (by kernel_rfl) (by kernel_rfl) (fun _ _ _ h => h) (Or.inl ⟨by rfl, ?hy_5_17⟩) (by assumption) ?rest_5_17
            case hy_5_17 => (intro w hSw; (try dsimp only at hSw); go_simp; (try (with_reducible rfl)))
            (try simp only [Act.put, List.setIfInBounds_toArray, List.set_cons_succ, List.set_cons_zero])
            refine wpAnyH_done (by kernel_rfl) ?_ _
            clear e0 e1 e2 hHeld1
            go_wp2
            go_ret
            exact ⟨by rw [HV.out]; rfl, HBB.out.trans (HB2.out.mono HBB.out.size)⟩
          · have q1 : (t != t') = false := by rw [bne, ht]; rfl
            have HV : Hid (Val.fit (a.drop (i + 1)) (ts.drop (i + 1)) = Val.fit a ts) := Lib.hid (by rw [← HR.out, hd, hr, ht]; rfl)
            clear hd hr HR
            go_wp2
            refine wp_region_held_drew (S := fun w' => w'.cell? ⟨ga, oa + i * 2, none⟩ = some (.int .i64 t) ∧ w'.cell? ⟨ga, oa + i * 2 + 1, none⟩ = some (.int .u64 (n : Int)) ∧ w'.cell? ⟨gt, ot + i, none⟩ = some (.int .i64 t')) (by kernel_rfl) ?_ (fun hHeld0 => ?_)
            · first | assumption | go_keep
            refine wpAnyH_take (i := 0) (oi := { dst := some 17, op := Go.Op.move (Go.Operand.tmp 0), type := 35, pos := "ref.go:39", after := #[], guard := none }) (v := ?v_6_0) rfl (by kernel_rfl) (by kernel_rfl) (by kernel_rfl) (fun _ _ _ h => h) (Or.inl ⟨by rfl, ?hy_6_0⟩) (by assumption) ?rest_6_0
            case hy_6_0 => (intro w hSw; (try dsimp only at hSw); go_simp; (try (with_reducible rfl)))
            (try simp only [Act.put, List.setIfInBounds_toArray, List.set_cons_succ, List.set_cons_zero])
            refine wpAnyH_take (i := 1) (oi := { dst := some 18, op := Go.Op.move (Go.Operand.tmp 5), type := 3, pos := "ref.go:39", after := #[], guard := none }) (v := ?v_6_1) rfl (by kernel_rfl) (by kernel_rfl) (by kernel_rfl) (fun _ _ _ h => h) (Or.inl ⟨by rfl, ?hy_6_1⟩) (by assumption) ?rest_6_1
            case hy_6_1 => (intro w hSw; (try dsimp only at hSw); go_simp; (try (with_reducible rfl)))
            (try simp only [Act.put, List.setIfInBounds_toArray, List.set_cons_succ, List.set_cons_zero])
            refine wpAnyH_take (i := 2) (oi := { dst := some 19, op := Go.Op.indexAddr 35 (Go.Operand.tmp 17) (Go.Operand.tmp 18), type := 0, pos := "ref.go:39", after := #[{ on := 0, ground := Go.Ground.data }, { on := 1, ground := Go.Ground.data }], guard := none }) (v := ?v_6_2) rfl (by kernel_rfl) (by kernel_rfl) (by kernel_rfl) (fun _ _ _ h => h) (Or.inl ⟨by rfl, ?hy_6_2⟩) (by assumption) ?rest_6_2
            case hy_6_2 => (intro w hSw; (try dsimp only at hSw); go_simp; (try (with_reducible rfl)))
            (try simp only [Act.put, List.setIfInBounds_toArray, List.set_cons_succ, List.set_cons_zero])
            refine wpAnyH_take (i := 3) (oi := { dst := some 20, op := Go.Op.load 25 (Go.Operand.tmp 19), type := 25, pos := "ref.go:39", after := #[{ on := 2, ground := Go.Ground.data }], guard := none }) (v := ?v_6_3) rfl (by kernel_rfl) (by kernel_rfl) (by kernel_rfl) (fun _ _ _ h => h) (Or.inl ⟨by rfl, ?hy_6_3⟩) (by assumption) ?rest_6_3
            case hy_6_3 => (intro w hSw; (try dsimp only at hSw); go_simp; (try (with_reducible rfl)))
            (try simp only [Act.put, List.setIfInBounds_toArray, List.set_cons_succ, List.set_cons_zero])
            refine wpAnyH_ready (rs := [4]) (by kernel_rfl) (by simp) ?_
            refine AllReadyH.cons (o := { dst := some 21, op := Go.Op.call { callee := Go.Callee.value (Go.Operand.func 9), args := #[Go.Operand.tmp 20], argTypes := #[25] }, type := 4, pos := "ref.go:39", after := #[{ on := 3, ground := Go.Ground.data }], guard := none }) rfl (fun K hK => ?_) AllReadyH.nil
            go_simp
            ((with_reducible refine (HC.out _).mono ?_); rintro e w2 ⟨rfl, hb2⟩; have e0 := (hb2.cell (p := ⟨ga, oa + i * 2, none⟩) hga).trans f0; have e1 := (hb2.cell (p := ⟨ga, oa + i * 2 + 1, none⟩) hga).trans f1; have e2 := (hb2.cell (p := ⟨gt, ot + i, none⟩) hgt).trans g0; have HB2 := Lib.hid ((below_drewN wr 1).trans hb2); clear hb2)
            (try dsimp only)
            refine hK.out _ _ ?_ (fun hHeld1 => ?_)
            · first | trivial | ((try dsimp only); first | assumption | trivial | go_keep)
            clear hK K hHeld0
            (try simp only [Act.put, List.setIfInBounds_toArray, List.set_cons_succ, List.set_cons_zero])
            refine wpAnyH_take (i := 5) (oi := { dst := some 22, op := Go.Op.unOp Go.UnOp.not 4 (Go.Operand.tmp 21), type := 4, pos := "ref.go:39", after := #[{ on := 4, ground := Go.Ground.data }], guard := none }) (v := ?v_6_5) rfl (by kernel_rfl) (by kernel_rfl) (by kernel_rfl) (fun _ _ _ h => h) (Or.inl ⟨by rfl, ?hy_6_5⟩) (by assumption) ?rest_6_5
            case hy_6_5 => (intro w hSw; (try dsimp only at hSw); go_simp; (try (with_reducible rfl)))
            (try simp only [Act.put, List.setIfInBounds_toArray, List.set_cons_succ, List.set_cons_zero])
            refine wpAnyH_take (i := 6) (oi := { dst := some 23, op := Go.Op.move (Go.Operand.tmp 22), type := 4, pos := "ref.go:39", after := #[{ on := 5, ground := Go.Ground.data }, { on := 4, ground := Go.Ground.chain }], guard := none }) (v := ?v_6_6) rfl (by kernel_rfl) (by kernel_rfl) (by kernel_rfl) (fun _ _ _ h => h) (Or.inl ⟨by rfl, ?hy_6_6⟩) (by assumption) ?rest_6_6
            case hy_6_6 => (intro w hSw; (try dsimp only at hSw); go_simp; (try (with_reducible rfl)))
            (try simp only [Act.put, List.setIfInBounds_toArray, List.set_cons_succ, List.set_cons_zero])
            refine wpAnyH_take (i := 7) (oi := { dst := some 24, op := Go.Op.move (Go.Operand.tmp 0), type := 35, pos := "ref.go:39", after := #[{ on := 6, ground := Go.Ground.guard }], guard := some (6, false) }) (v := ?v_6_7) rfl (by kernel_rfl) (by kernel_rfl) (by kernel_rfl) (fun _ _ _ h => h) (Or.inl ⟨by rfl, ?hy_6_7⟩) (by assumption) ?rest_6_7
            case hy_6_7 => (intro w hSw; (try dsimp only at hSw); go_simp; (try (with_reducible rfl)))
            (try simp only [Act.put, List.setIfInBounds_toArray, List.set_cons_succ, List.set_cons_zero])
            refine wpAnyH_take (i := 8) (oi := { dst := some 25, op := Go.Op.move (Go.Operand.tmp 5), type := 3, pos := "ref.go:39", after := #[{ on := 6, ground := Go.Ground.guard }], guard := some (6, false) }) (v := ?v_6_8) rfl (by kernel_rfl) (by kernel_rfl) (by kernel_rfl) (fun _ _ _ h => h) (Or.inl ⟨by rfl, ?hy_6_8⟩) (by assumption) ?rest_6_8
            case hy_6_8 => (intro w hSw; (try dsimp only at hSw); go_simp; (try (with_reducible rfl)))
            (try simp only [Act.put, List.setIfInBounds_toArray, List.set_cons_succ, List.set_cons_zero])
            refine wpAnyH_take (i := 9) (oi := { dst := some 26, op := Go.Op.indexAddr 35 (Go.Operand.tmp 24) (Go.Operand.tmp 25), type := 0, pos := "ref.go:39", after := #[{ on := 7, ground := Go.Ground.data }, { on := 8, ground := Go.Ground.data }, { on := 6, ground := Go.Ground.guard }], guard := some (6, false) }) (v := ?v_6_9) rfl (by kernel_rfl) (by kernel_rfl) (by kernel_rfl) (fun _ _ _ h => h) (Or.inl ⟨by rfl, ?hy_6_9⟩) (by assumption) ?rest_6_9
            case hy_6_9 => (intro w hSw; (try dsimp only at hSw); go_simp; (try (with_reducible rfl)))
            (try simp only [Act.put, List.setIfInBounds_toArray, List.set_cons_succ, List.set_cons_zero])
            refine wpAnyH_take (i := 10) (oi := { dst := some 27, op := Go.Op.fieldAddr 25 (Go.Operand.tmp 26) 0, type := 0, pos := "ref.go:39", after := #[{ on := 9, ground := Go.Ground.data }, { on := 6, ground := Go.Ground.guard }], guard := some (6, false) }) (v := ?v_6_10) rfl (by kernel_rfl) (by kernel_rfl) (by kernel_rfl) (fun _ _ _ h => h) (Or.inl ⟨by rfl, ?hy_6_10⟩) (by assumption) ?rest_6_10
            case hy_6_10 => (intro w hSw; (try dsimp only at hSw); go_simp; (try (with_reducible rfl)))
            (try simp only [Act.put, List.setIfInBounds_toArray, List.set_cons_succ, List.set_cons_zero])
            refine wpAnyH_take (i := 11) (oi := { dst := some 28, op := Go.Op.load 22 (Go.Operand.tmp 27), type := 22, pos := "ref.go:39", after := #[{ on := 10, ground := Go.Ground.data }, { on := 6, ground := Go.Ground.guard }], guard := some (6, false) }) (v := ?v_6_11) rfl (by kernel_rfl) (by kernel_rfl) (by kernel_rfl) (fun _ _ _ h => h) (Or.inl ⟨by rfl, ?hy_6_11⟩) (by assumption) ?rest_6_11
            case hy_6_11 => (intro w hSw; (try dsimp only at hSw); go_simp; (try (with_reducible rfl)))
            (try simp only [Act.put, List.setIfInBounds_toArray, List.set_cons_succ, List.set_cons_zero])
            refine wpAnyH_take (i := 12) (oi := { dst := some 29, op := Go.Op.move (Go.Operand.tmp 1), type := 36, pos := "ref.go:39", after := #[{ on := 6, ground := Go.Ground.guard }], guard := some (6, false) }) (v := ?v_6_12) rfl (by kernel_rfl) (by kernel_rfl) (by kernel_rfl) (fun _ _ _ h => h) (Or.inl ⟨by rfl, ?hy_6_12⟩) (by assumption) ?rest_6_12
            case hy_6_12 => (intro w hSw; (try dsimp only at hSw); go_simp; (try (with_reducible rfl)))
            (try simp only [Act.put, List.setIfInBounds_toArray, List.set_cons_succ, List.set_cons_zero])
            refine wpAnyH_take (i := 13) (oi := { dst := some 30, op := Go.Op.move (Go.Operand.tmp 5), type := 3, pos := "ref.go:39", after := #[{ on := 6, ground := Go.Ground.guard }], guard := some (6, false) }) (v := ?v_6_13) rfl (by kernel_rfl) (by kernel_rfl) (by kernel_rfl) (fun _ _ _ h => h) (Or.inl ⟨by rfl, ?hy_6_13⟩) (by assumption) ?rest_6_13
            case hy_6_13 => (intro w hSw; (try dsimp only at hSw); go_simp; (try (with_reducible rfl)))
            (try simp only [Act.put, List.setIfInBounds_toArray, List.set_cons_succ, List.set_cons_zero])
            refine wpAnyH_take (i := 14) (oi := { dst := some 31, op := Go.Op.indexAddr 36 (Go.Operand.tmp 29) (Go.Operand.tmp 30), type := 0, pos := "ref.go:39", after := #[{ on := 12, ground := Go.Ground.data }, { on := 13, ground := Go.Ground.data }, { on := 6, ground := Go.Ground.guard }], guard := some (6, false) }) (v := ?v_6_14) rfl (by kernel_rfl) (by kernel_rfl) (by kernel_rfl) (fun _ _ _ h => h) (Or.inl ⟨by rfl, ?hy_6_14⟩) (by assumption) ?rest_6_14
            case hy_6_14 => (intro w hSw; (try dsimp only at hSw); go_simp; (try (with_reducible rfl)))
            (try simp only [Act.put, List.setIfInBounds_toArray, List.set_cons_succ, List.set_cons_zero])
            refine wpAnyH_take (i := 15) (oi := { dst := some 32, op := Go.Op.load 22 (Go.Operand.tmp 31), type := 22, pos := "ref.go:39", after := #[{ on := 14, ground := Go.Ground.data }, { on := 6, ground := Go.Ground.guard }], guard := some (6, false) }) (v := ?v_6_15) rfl (by kernel_rfl) (by kernel_rfl) (by kernel_rfl) (fun _ _ _ h => h) (Or.inl ⟨by rfl, ?hy_6_15⟩) (by assumption) ?rest_6_15
            case hy_6_15 => (intro w hSw; (try dsimp only at hSw); go_simp; (try (with_reducible rfl)))
            (try simp only [Act.put, List.setIfInBounds_toArray, List.set_cons_succ, List.set_cons_zero])
            refine wpAnyH_take (i := 16) (oi := { dst := some 33, op := Go.Op.binOp Go.BinOp.neq 22 (Go.Operand.tmp 28) (Go.Operand.tmp 32) 22, type := 4, pos := "ref.go:39", after := #[{ on := 11, ground := Go.Ground.data }, { on := 15, ground := Go.Ground.data }, { on := 6, ground := Go.Ground.guard }], guard := some (6, false) }) (v := ?v_6_16) rfl (by kernel_rfl) (by kernel_rfl) (by kernel_rfl) (fun _ _ _ h => h) (Or.inl ⟨by rfl, ?hy_6_16⟩) (by assumption) ?rest_6_16
            case hy_6_16 => (intro w hSw; (try dsimp only at hSw); go_simp; (try (with_reducible rfl)))
            (try simp only [Act.put, List.setIfInBounds_toArray, List.set_cons_succ, List.set_cons_zero])
            refine wpAnyH_take (i := 17) (oi := { dst := some 34, op := Go.Op.pick (Go.Operand.tmp 23) (Go.Operand.const (Go.Value.bool true)) (Go.Operand.tmp 33), type := 4, pos := "ref.go:39", after := #[{ on := 6, ground := Go.Ground.data }, { on := 16, ground := Go.Ground.data }], guard := none }) (v := ?v_6_17) rfl (by kernel_rfl) (by kernel_rfl) (by kernel_rfl) (fun _ _ _ h => h) (Or.inl ⟨by rfl, ?hy_6_17⟩) (by assumption) ?rest_6_17
            case hy_6_17 => (intro w hSw; (try dsimp only at hSw); go_simp; (try (with_reducible rfl)))
            (try simp only [Act.put, List.setIfInBounds_toArray, List.set_cons_succ, List.set_cons_zero])
            refine wpAnyH_done (by kernel_rfl) ?_ _
            clear e0 e1 e2 hHeld1
            have HB3 := Lib.hid (HB2.out.mono HBB.out.size)
            go_wp2
            go_round
            case rel => exact ⟨i + 1, by go_num, by omega, K1.out.below HB3.out, K2.out.below HB3.out, HBB.out.trans HB3.out, HV⟩
            case measure => simp [intOf]; omega
      · have hi2 : i = a.length := by omega
        have HV : Hid (Val.fit a ts = true) := Lib.hid (by rw [← HR.out, hi2, List.drop_length, show List.drop a.length ts = [] by rw [HL.out]; exact List.drop_length]; rfl)
        have x3 : decide (i < a.length) = false := by simpa using hia
        have x0 : ¬ ((i : Int) < (a.length : Int)) := by omega
        clear HR k1 k2
        go_wp2
        go_ret
        exact ⟨by rw [HV.out]; rfl, hB⟩
  · have d0 : ((a.length : Int) != (ts.length : Int)) = true := by simp; omega
    have d1 : (a.length != ts.length) = true := by simp; omega
    have HV := Lib.hid (fit_no hl)
    go_enter Tryd.func20, Tryd.ntmps20
    go_wp2
    go_ret
    exact ⟨by rw [HV.out]; rfl, Below.refl _ _⟩
set_option maxHeartbeats 16000000 in
set_option maxRecDepth 100000 in
theorem fit_any (A1 A2 : Option Addr) (c1 c2 : Nat) (a : List V) (ts : List Int) (w : World) (h1 : RdV w w.heap.size A1 a) (h2 : RdC w w.heap.size A2 (vtys ts)) (hn : ∀ v ∈ a, v.n < 18446744073709551616) (l1 : a.length ≤ 1000000) (l2 : ts.length ≤ 1000000) :
    Calls Tryd.prog 19 #[.slice A1 a.length c1, .slice A2 ts.length c2] w fun e w' => e = .returned (.bool (Val.fit a ts)) ∧ Below w.heap.size w w' := by
  by_cases hl : a.length = ts.length
  · have d0 : ((a.length : Int) != (ts.length : Int)) = false := by simp; omega
    have d1 : (a.length != ts.length) = false := by simp; omega
    have HL := Lib.hid hl
    clear hl
    go_enter Tryd.func19, Tryd.ntmps19
    go_wp2
    go_loopw [14] (fun iv wr => ∃ (i : Nat), iv = .int .i64 (i : Int) ∧ i ≤ a.length ∧ RdV wr w.heap.size A1 a ∧ RdC wr w.heap.size A2 (vtys ts) ∧ Below w.heap.size w wr ∧ Hid (Val.fit (a.drop i) (ts.drop i) = Val.fit a ts)) (fun iv _ => a.length - (intOf iv).toNat)
    case atStart => exact ⟨0, rfl, by omega, h1, h2, Below.refl _ _, by simp [Hid]⟩
    case round =>
      obtain ⟨i, rfl, hi, k1, k2, hB, HR⟩ := hrel
      by_cases hia : i < a.length
      · have hib : i < ts.length := by have := HL.out; omega
        obtain ⟨ga, oa, rfl, hb1, e1⟩ := id k1 (by intro e; rw [e] at hia; simp at hia)
        obtain ⟨gt, ot, rfl, hb2, e2⟩ := id k2 (by intro e; have := congrArg List.length e; simp [vtys] at this; rw [this] at hib; simp at hib)
        obtain ⟨f0, f1⟩ := e1 i hia
        have g0 := e2 i (by simpa [vtys] using hib)
        simp only [vtys, List.getElem_map] at g0
        have hd := fit_step hia hib
        have hvn := hn a[i] (List.getElem_mem _)
        obtain ⟨⟨t, n⟩, hv⟩ : ∃ v, a[i] = v := ⟨_, rfl⟩
        obtain ⟨t', hv'⟩ : ∃ v, ts[i] = v := ⟨_, rfl⟩
        rw [hv] at f0 f1 hd hvn
        rw [hv'] at g0 hd
        dsimp only at f0 f1 hd hvn
        have x0 : (i : Int) < (a.length : Int) := by omega
        have x1 : (i : Int) < (ts.length : Int) := by omega
        have x2 : (0 : Int) ≤ (i : Int) := by omega
        have x3 : decide (i < a.length) = true := by simpa using hia
        have hga : ga < wr.heap.size := by have := hB.size; omega
        have hgt : gt < wr.heap.size := by have := hB.size; omega
        have hc := fun W => right_any ⟨t, n⟩ hvn W
        unfold vv at hc
        dsimp only at hc
        have HN := Lib.hid hn
        have K1 := Lib.hid k1
        have K2 := Lib.hid k2
        have HBB := Lib.hid hB
        clear hn k1 k2 e1 e2 hv hv' hvn hB
        rcases hr : Val.right ⟨t, n⟩ with _ | _
        · simp only [hr] at hc
          have HC := Lib.hid hc
          have HV : Hid (Val.fit a ts = false) := Lib.hid (by rw [← HR.out, hd, hr]; rfl)
          clear hc hd hr HR
          go_upto_region 6 with fail
          refine at_code (F := fun W => Var W wr.heap.size #[.int .i64 t, .int .u64 (n : Int)] 25 ∧ Below wr.heap.size wr W) ⟨Var.new _ _ _, (Below.refl wr.heap.size wr).alloc (Nat.le_refl _) _⟩ ?_
          rintro wx ⟨hvx, hbx⟩
          have HBX := Lib.hid hbx
          have g1 := (hbx.cell (p := ⟨gt, ot + i, none⟩) hgt).trans g0
          have hgx : gt < wx.heap.size := Nat.lt_of_lt_of_le hgt hbx.size
          clear f0 f1 g0 hbx
          have f0 := hvx.cells 0
          have f1 := hvx.cells 1
          simp only [List.getElem?_toArray, List.getElem?_cons_zero, List.getElem?_cons_succ] at f0 f1
          go_wp2
          refine wp_region_held_drew (S := fun w' => w'.cell? ⟨wr.heap.size, 0, none⟩ = some (.int .i64 t) ∧ w'.cell? ⟨wr.heap.size, 1, none⟩ = some (.int .u64 (n : Int)) ∧ w'.cell? ⟨gt, ot + i, none⟩ = some (.int .i64 t')) (by kernel_rfl) ?_ (fun hHeld0 => ?_)
          · first | assumption | go_keep
          refine wpAnyH_take (i := 0) (oi := { dst := some 19, op := Go.Op.load 25 (Go.Operand.tmp 6), type := 25, pos := "value.go:46", after := #[], guard := none }) (v := ?v_1_0) rfl (by kernel_rfl) (by kernel_rfl) (by kernel_rfl) (fun _ _ _ h => h) (Or.inl ⟨by rfl, ?hy_1_0⟩) (by assumption) ?rest_1_0
          case hy_1_0 => (intro w hSw; (try dsimp only at hSw); go_simp; (try (with_reducible rfl)))
          (try simp only [Act.put, List.setIfInBounds_toArray, List.set_cons_succ, List.set_cons_zero])
          refine wpAnyH_ready (rs := [1]) (by kernel_rfl) (by simp) ?_
          refine AllReadyH.cons (o := { dst := some 20, op := Go.Op.call { callee := Go.Callee.value (Go.Operand.func 8), args := #[Go.Operand.tmp 19], argTypes := #[25] }, type := 4, pos := "value.go:46", after := #[{ on := 0, ground := Go.Ground.data }], guard := none }) rfl (fun K hK => ?_) AllReadyH.nil
          go_simp
          ((with_reducible refine (HC.out _).mono ?_); rintro e w2 ⟨rfl, hb2⟩; have e0 := (hb2.cell (p := ⟨wr.heap.size, 0, none⟩) hvx.lt).trans f0; have e1 := (hb2.cell (p := ⟨wr.heap.size, 1, none⟩) hvx.lt).trans f1; have e2 := (hb2.cell (p := ⟨gt, ot + i, none⟩) hgx).trans g1; have HB2 := Lib.hid (HBX.out.trans (((below_drewN wx 1).trans hb2).mono HBX.out.size)); clear hb2)
          (try dsimp only)
          refine hK.out _ _ ?_ (fun hHeld1 => ?_)
          · first | trivial | ((try dsimp only); first | assumption | trivial | go_keep)
          clear hK K hHeld0
          (try simp only [Act.put, List.setIfInBounds_toArray, List.set_cons_succ, List.set_cons_zero])
          refine wpAnyH_take (i := 2) (oi := { dst := some 21, op := Go.Op.unOp Go.UnOp.not 4 (Go.Operand.tmp 20), type := 4, pos := "value.go:46", after := #[{ on := 1, ground := Go.Ground.data }], guard := none }) (v := ?v_1_2) rfl (by kernel_rfl) (by kernel_rfl) (by kernel_rfl) (fun _ _ _ h => h) (Or.inl ⟨by rfl, ?hy_1_2⟩) (by assumption) ?rest_1_2
          case hy_1_2 => (intro w hSw; (try dsimp only at hSw); go_simp; (try (with_reducible rfl)))
          (try simp only [Act.put, List.setIfInBounds_toArray, List.set_cons_succ, List.set_cons_zero])
          refine wpAnyH_take (i := 3) (oi := { dst := some 22, op := Go.Op.move (Go.Operand.tmp 21), type := 4, pos := "value.go:46", after := #[{ on := 2, ground := Go.Ground.data }, { on := 1, ground := Go.Ground.chain }], guard := none }) (v := ?v_1_3) rfl (by kernel_rfl) (by kernel_rfl) (by kernel_rfl) (fun _ _ _ h => h) (Or.inl ⟨by rfl, ?hy_1_3⟩) (by assumption) ?rest_1_3
          case hy_1_3 => (intro w hSw; (try dsimp only at hSw); go_simp; (try (with_reducible rfl)))
          (try simp only [Act.put, List.setIfInBounds_toArray, List.set_cons_succ, List.set_cons_zero])
          refine wpAnyH_take (i := 4) (oi := { dst := some 23, op := Go.Op.load 25 (Go.Operand.tmp 6), type := 25, pos := "value.go:46", after := #[{ on := 3, ground := Go.Ground.guard }], guard := some (3, false) }) (v := undef) rfl (by kernel_rfl) (by kernel_rfl) (by kernel_rfl) (fun _ _ _ h => h) (Or.inr ⟨by rfl, rfl⟩) (by assumption) ?rest_1_4
          (try simp only [Act.put, List.setIfInBounds_toArray, List.set_cons_succ, List.set_cons_zero])
          refine wpAnyH_take (i := 5) (oi := { dst := some 24, op := Go.Op.move (Go.Operand.tmp 1), type := 36, pos := "value.go:46", after := #[{ on := 3, ground := Go.Ground.guard }], guard := some (3, false) }) (v := undef) rfl (by kernel_rfl) (by kernel_rfl) (by kernel_rfl) (fun _ _ _ h => h) (Or.inr ⟨by rfl, rfl⟩) (by assumption) ?rest_1_5
          (try simp only [Act.put, List.setIfInBounds_toArray, List.set_cons_succ, List.set_cons_zero])
          refine wpAnyH_take (i := 6) (oi := { dst := some 25, op := Go.Op.move (Go.Operand.tmp 5), type := 3, pos := "value.go:46", after := #[{ on := 3, ground := Go.Ground.guard }], guard := some (3, false) }) (v := undef) rfl (by kernel_rfl) (by kernel_rfl) (by kernel_rfl) (fun _ _ _ h => h) (Or.inr ⟨by rfl, rfl⟩) (by assumption) ?rest_1_6
          (try simp only [Act.put, List.setIfInBounds_toArray, List.set_cons_succ, List.set_cons_zero])
          refine wpAnyH_take (i := 7) (oi := { dst := some 26, op := Go.Op.indexAddr 36 (Go.Operand.tmp 24) (Go.Operand.tmp 25), type := 0, pos := "value.go:46", after := #[{ on := 5, ground := Go.Ground.data }, { on := 6, ground := Go.Ground.data }, { on := 3, ground := Go.Ground.guard }], guard := some (3, false) }) (v := undef) rfl (by kernel_rfl) (by kernel_rfl) (by kernel_rfl) (fun _ _ _ h => h) (Or.inr ⟨by rfl, rfl⟩) (by assumption) ?rest_1_7
          (try simp only [Act.put, List.setIfInBounds_toArray, List.set_cons_succ, List.set_cons_zero])
          refine wpAnyH_take (i := 8) (oi := { dst := some 27, op := Go.Op.load 22 (Go.Operand.tmp 26), type := 22, pos := "value.go:46", after := #[{ on := 7, ground := Go.Ground.data }, { on := 3, ground := Go.Ground.guard }], guard := some (3, false) }) (v := undef) rfl (by kernel_rfl) (by kernel_rfl) (by kernel_rfl) (fun _ _ _ h => h) (Or.inr ⟨by rfl, rfl⟩) (by assumption) ?rest_1_8
          (try simp only [Act.put, List.setIfInBounds_toArray, List.set_cons_succ, List.set_cons_zero])
          refine wpAnyH_take (i := 9) (oi := { dst := some 28, op := Go.Op.fieldAddr 25 (Go.Operand.tmp 6) 1, type := 0, pos := "value.go:46", after := #[{ on := 3, ground := Go.Ground.guard }], guard := some (3, false) }) (v := undef) rfl (by kernel_rfl) (by kernel_rfl) (by kernel_rfl) (fun _ _ _ h => h) (Or.inr ⟨by rfl, rfl⟩) (by assumption) ?rest_1_9
          (try simp only [Act.put, List.setIfInBounds_toArray, List.set_cons_succ, List.set_cons_zero])
          refine wpAnyH_take (i := 10) (oi := { dst := some 29, op := Go.Op.load 23 (Go.Operand.tmp 28), type := 23, pos := "value.go:46", after := #[{ on := 9, ground := Go.Ground.data }, { on := 3, ground := Go.Ground.guard }], guard := some (3, false) }) (v := undef) rfl (by kernel_rfl) (by kernel_rfl) (by kernel_rfl) (fun _ _ _ h => h) (Or.inr ⟨by rfl, rfl⟩) (by assumption) ?rest_1_10
          (try simp only [Act.put, List.setIfInBounds_toArray, List.set_cons_succ, List.set_cons_zero])
          refine wpAnyH_take (i := 11) (oi := { dst := some 30, op := Go.Op.build 25 #[(0, Go.Operand.tmp 27), (1, Go.Operand.tmp 29)], type := 25, pos := "value.go:46", after := #[{ on := 8, ground := Go.Ground.data }, { on := 10, ground := Go.Ground.data }, { on := 3, ground := Go.Ground.guard }], guard := some (3, false) }) (v := undef) rfl (by kernel_rfl) (by kernel_rfl) (by kernel_rfl) (fun _ _ _ h => h) (Or.inr ⟨by rfl, rfl⟩) (by assumption) ?rest_1_11
          (try simp only [Act.put, List.setIfInBounds_toArray, List.set_cons_succ, List.set_cons_zero])
          refine wpAnyH_take (i := 12) (oi := { dst := some 31, op := Go.Op.binOp Go.BinOp.neq 25 (Go.Operand.tmp 23) (Go.Operand.tmp 30) 25, type := 4, pos := "value.go:46", after := #[{ on := 4, ground := Go.Ground.data }, { on := 11, ground := Go.Ground.data }, { on := 3, ground := Go.Ground.guard }], guard := some (3, false) }) (v := undef) rfl (by kernel_rfl) (by kernel_rfl) (by kernel_rfl) (fun _ _ _ h => h) (Or.inr ⟨by rfl, rfl⟩) (by assumption) ?rest_1_12
          (try simp only [Act.put, List.setIfInBounds_toArray, List.set_cons_succ, List.set_cons_zero])
          refine wpAnyH_take (i := 13) (oi := { dst := some 32, op := Go.Op.pick (Go.Operand.tmp 22) (Go.Operand.const (Go.Value.bool true)) (Go.Operand.tmp 31), type := 4, pos := "value.go:46", after := #[{ on := 3, ground := Go.Ground.data }, { on := 12, ground := Go.Ground.data }], guard := none }) (v := ?v_1_13) rfl (by kernel_rfl) (by kernel_rfl) (by kernel_rfl) (fun _ _ _ h => h) (Or.inl ⟨by rfl, ?hy_1_13⟩) (by assumption) ?rest_1_13
          case hy_1_13 => (intro w hSw; (try dsimp only at hSw); go_simp; (try (with_reducible rfl)))
          (try simp only [Act.put, List.setIfInBounds_toArray, List.set_cons_succ, List.set_cons_zero])
          refine wpAnyH_done (by kernel_rfl) ?_ _
          clear e0 e1 e2 hHeld1
          go_wp2
          go_ret
          exact ⟨by rw [HV.out]; rfl, HBB.out.trans (HB2.out.mono HBB.out.size)⟩
        · simp only [hr] at hc
          have HC := Lib.hid hc
          clear hc
          rcases ht : (t == t') with _ | _
          · have q1 : (t != t') = true := by rw [bne, ht]; rfl
            have HV : Hid (Val.fit a ts = false) := Lib.hid (by rw [← HR.out, hd, hr, ht]; rfl)
            clear hd hr HR
            go_upto_region 6 with fail
            refine at_code (F := fun W => Var W wr.heap.size #[.int .i64 t, .int .u64 (n : Int)] 25 ∧ Below wr.heap.size wr W) ⟨Var.new _ _ _, (Below.refl wr.heap.size wr).alloc (Nat.le_refl _) _⟩ ?_
            rintro wx ⟨hvx, hbx⟩
            have HBX := Lib.hid hbx
            have g1 := (hbx.cell (p := ⟨gt, ot + i, none⟩) hgt).trans g0
            have hgx : gt < wx.heap.size := Nat.lt_of_lt_of_le hgt hbx.size
            clear f0 f1 g0 hbx
            have f0 := hvx.cells 0
            have f1 := hvx.cells 1
            simp only [List.getElem?_toArray, List.getElem?_cons_zero, List.getElem?_cons_succ] at f0 f1
            go_wp2
            refine wp_region_held_drew (S := fun w' => w'.cell? ⟨wr.heap.size, 0, none⟩ = some (.int .i64 t) ∧ w'.cell? ⟨wr.heap.size, 1, none⟩ = some (.int .u64 (n : Int)) ∧ w'.cell? ⟨gt, ot + i, none⟩ = some (.int .i64 t')) (by kernel_rfl) ?_ (fun hHeld0 => ?_)
            · first | assumption | go_keep
            refine wpAnyH_take (i := 0) (oi := { dst := some 19, op := Go.Op.load 25 (Go.Operand.tmp 6), type := 25, pos := "value.go:46", after := #[], guard := none }) (v := ?v_2_0) rfl (by kernel_rfl) (by kernel_rfl) (by kernel_rfl) (fun _ _ _ h => h) (Or.inl ⟨by rfl, ?hy_2_0⟩) (by assumption) ?rest_2_0
            case hy_2_0 => (intro w hSw; (try dsimp only at hSw); go_simp; (try (with_reducible rfl)))
            (try simp only [Act.put, List.setIfInBounds_toArray, List.set_cons_succ, List.set_cons_zero])
            refine wpAnyH_ready (rs := [1]) (by kernel_rfl) (by simp) ?_
            refine AllReadyH.cons (o := { dst := some 20, op := Go.Op.call { callee := Go.Callee.value (Go.Operand.func 8), args := #[Go.Operand.tmp 19], argTypes := #[25] }, type := 4, pos := "value.go:46", after := #[{ on := 0, ground := Go.Ground.data }], guard := none }) rfl (fun K hK => ?_) AllReadyH.nil
            go_simp
            ((with_reducible refine (HC.out _).mono ?_); rintro e w2 ⟨rfl, hb2⟩; have e0 := (hb2.cell (p := ⟨wr.heap.size, 0, none⟩) hvx.lt).trans f0; have e1 := (hb2.cell (p := ⟨wr.heap.size, 1, none⟩) hvx.lt).trans f1; have e2 := (hb2.cell (p := ⟨gt, ot + i, none⟩) hgx).trans g1; have HB2 := Lib.hid (HBX.out.trans (((below_drewN wx 1).trans hb2).mono HBX.out.size)); clear hb2)
            (try dsimp only)
            refine hK.out _ _ ?_ (fun hHeld1 => ?_)
            · first | trivial | ((try dsimp only); first | assumption | trivial | go_keep)
            clear hK K hHeld0
            (try simp only [Act.put, List.setIfInBounds_toArray, List.set_cons_succ, List.set_cons_zero])
            refine wpAnyH_take (i := 2) (oi := { dst := some 21, op := Go.Op.unOp Go.UnOp.not 4 (Go.Operand.tmp 20), type := 4, pos := "value.go:46", after := #[{ on := 1, ground := Go.Ground.data }], guard := none }) (v := ?v_2_2) rfl (by kernel_rfl) (by kernel_rfl) (by kernel_rfl) (fun _ _ _ h => h) (Or.inl ⟨by rfl, ?hy_2_2⟩) (by assumption) ?rest_2_2
            case hy_2_2 => (intro w hSw; (try dsimp only at hSw); go_simp; (try (with_reducible rfl)))
            (try simp only [Act.put, List.setIfInBounds_toArray, List.set_cons_succ, List.set_cons_zero])
            refine wpAnyH_take (i := 3) (oi := { dst := some 22, op := Go.Op.move (Go.Operand.tmp 21), type := 4, pos := "value.go:46", after := #[{ on := 2, ground := Go.Ground.data }, { on := 1, ground := Go.Ground.chain }], guard := none }) (v := ?v_2_3) rfl (by kernel_rfl) (by kernel_rfl) (by kernel_rfl) (fun _ _ _ h => h) (Or.inl ⟨by rfl, ?hy_2_3⟩) (by assumption) ?rest_2_3
            case hy_2_3 => (intro w hSw; (try dsimp only at hSw); go_simp; (try (with_reducible rfl)))
            (try simp only [Act.put, List.setIfInBounds_toArray, List.set_cons_succ, List.set_cons_zero])
            refine wpAnyH_take (i := 4) (oi := { dst := some 23, op := Go.Op.load 25 (Go.Operand.tmp 6), type := 25, pos := "value.go:46", after := #[{ on := 3, ground := Go.Ground.guard }], guard := some (3, false) }) (v := ?v_2_4) rfl (by kernel_rfl) (by kernel_rfl) (by kernel_rfl) (fun _ _ _ h => h) (Or.inl ⟨by rfl, ?hy_2_4⟩) (by assumption) ?rest_2_4
            case hy_2_4 => (intro w hSw; (try dsimp only at hSw); go_simp; (try (with_reducible rfl)))
            (try simp only [Act.put, List.setIfInBounds_toArray, List.set_cons_succ, List.set_cons_zero])
            refine wpAnyH_take (i := 5) (oi := { dst := some 24, op := Go.Op.move (Go.Operand.tmp 1), type := 36, pos := "value.go:46", after := #[{ on := 3, ground := Go.Ground.guard }], guard := some (3, false) }) (v := ?v_2_5) rfl (by kernel_rfl) (by kernel_rfl) (by kernel_rfl) (fun _ _ _ h => h) (Or.inl ⟨by rfl, ?hy_2_5⟩) (by assumption) ?rest_2_5
            case hy_2_5 => (intro w hSw; (try dsimp only at hSw); go_simp; (try (with_reducible rfl)))
            (try simp only [Act.put, List.setIfInBounds_toArray, List.set_cons_succ, List.set_cons_zero])
            refine wpAnyH_take (i := 6) (oi := { dst := some 25, op := Go.Op.move (Go.Operand.tmp 5), type := 3, pos := "value.go:46", after := #[{ on := 3, ground := Go.Ground.guard }], guard := some (3, false) }) (v := ?v_2_6) rfl (by kernel_rfl) (by kernel_rfl) (by kernel_rfl) (fun _ _ _ h => h) (Or.inl ⟨by rfl, ?hy_2_6⟩) (by assumption) ?rest_2_6
            case hy_2_6 => (intro w hSw; (try dsimp only at hSw); go_simp; (try (with_reducible rfl)))
            (try simp only [Act.put, List.setIfInBounds_toArray, List.set_cons_succ, List.set_cons_zero])
            refine wpAnyH_take (i := 7) (oi := { dst := some 26, op := Go.Op.indexAddr 36 (Go.Operand.tmp 24) (Go.Operand.tmp 25), type := 0, pos := "value.go:46", after := #[{ on := 5, ground := Go.Ground.data }, { on := 6, ground := Go.Ground.data }, { on := 3, ground := Go.Ground.guard }], guard := some (3, false) }) (v := ?v_2_7) rfl (by kernel_rfl) (by kernel_rfl) (by kernel_rfl) (fun _ _ _ h => h) (Or.inl ⟨by rfl, ?hy_2_7⟩) (by assumption) ?rest_2_7
            case hy_2_7 => (intro w hSw; (try dsimp only at hSw); go_simp; (try (with_reducible rfl)))
            (try simp only [Act.put, List.setIfInBounds_toArray, List.set_cons_succ, List.set_cons_zero])
            refine wpAnyH_take (i := 8) (oi := { dst := some 27, op := Go.Op.load 22 (Go.Operand.tmp 26), type := 22, pos := "value.go:46", after := #[{ on := 7, ground := Go.Ground.data }, { on := 3, ground := Go.Ground.guard }], guard := some (3, false) }) (v := ?v_2_8) rfl (by kernel_rfl) (by kernel_rfl) (by kernel_rfl) (fun _ _ _ h => h) (Or.inl ⟨by rfl, ?hy_2_8⟩) (by assumption) ?rest_2_8
            case hy_2_8 => (intro w hSw; (try dsimp only at hSw); go_simp; (try (with_reducible rfl)))
            (try simp only [Act.put, List.setIfInBounds_toArray, List.set_cons_succ, List.set_cons_zero])
            refine wpAnyH_take (i := 9) (oi := { dst := some 28, op := Go.Op.fieldAddr 25 (Go.Operand.tmp 6) 1, type := 0, pos := "value.go:46", after := #[{ on := 3, ground := Go.Ground.guard }], guard := some (3, false) }) (v := ?v_2_9) rfl (by kernel_rfl) (by kernel_rfl) (by kernel_rfl) (fun _ _ _ h => h) (Or.inl ⟨by rfl, ?hy_2_9⟩) (by assumption) ?rest_2_9
            case hy_2_9 => (intro w hSw; (try dsimp only at hSw); go_simp; (try (with_reducible rfl)))
            (try simp only [Act.put, List.setIfInBounds_toArray, List.set_cons_succ, List.set_cons_zero])
            refine wpAnyH_take (i := 10) (oi := { dst := some 29, op := Go.Op.load 23 (Go.Operand.tmp 28), type := 23, pos := "value.go:46", after := #[{ on := 9, ground := Go.Ground.data }, { on := 3, ground := Go.Ground.guard }], guard := some (3, false) }) (v := ?v_2_10) rfl (by kernel_rfl) (by kernel_rfl) (by kernel_rfl) (fun _ _ _ h => h) (Or.inl ⟨by rfl, ?hy_2_10⟩) (by assumption) ?rest_2_10
            case hy_2_10 => (intro w hSw; (try dsimp only at hSw); go_simp; (try (with_reducible rfl)))
            (try simp only [Act.put, List.setIfInBounds_toArray, List.set_cons_succ, List.set_cons_zero])
            refine wpAnyH_take (i := 11) (oi := { dst := some 30, op := Go.Op.build 25 #[(0, Go.Operand.tmp 27), (1, Go.Operand.tmp 29)], type := 25, pos := "value.go:46", after := #[{ on := 8, ground := Go.Ground.data }, { on := 10, ground := Go.Ground.data }, { on := 3, ground := Go.Ground.guard }], guard := some (3, false) }) (v := ?v_2_11) rfl (by kernel_rfl) (by kernel_rfl) (by kernel_rfl) (fun _ _ _ h => h) (Or.inl ⟨by rfl, ?hy_2_11⟩) (by assumption) ?rest_2_11
            case hy_2_11 => (intro w hSw; (try dsimp only at hSw); go_simp; (try (with_reducible rfl)))
            (try simp only [Act.put, List.setIfInBounds_toArray, List.set_cons_succ, List.set_cons_zero])
            refine wpAnyH_take (i := 12) (oi := { dst := some 31, op := Go.Op.binOp Go.BinOp.neq 25 (Go.Operand.tmp 23) (Go.Operand.tmp 30) 25, type := 4, pos := "value.go:46", after := #[{ on := 4, ground := Go.Ground.data }, { on := 11, ground := Go.Ground.data }, { on := 3, ground := Go.Ground.guard }], guard := some (3, false) }) (v := ?v_2_12) rfl (by kernel_rfl) (by kernel_rfl) (by kernel_rfl) (fun _ _ _ h => h) (Or.inl ⟨by rfl, ?hy_2_12⟩) (by assumption) ?rest_2_12
            case hy_2_12 => (intro w hSw; (try dsimp only at hSw); go_simp; (try (with_reducible rfl)))
            (try simp only [Act.put, List.setIfInBounds_toArray, List.set_cons_succ, List.set_cons_zero])
            refine wpAnyH_take (i := 13) (oi := { dst := some 32, op := Go.Op.pick (Go.Operand.tmp 22) (Go.Operand.const (Go.Value.bool true)) (Go.Operand.tmp 31), type := 4, pos := "value.go:46", after := #[{ on := 3, ground := Go.Ground.data }, { on := 12, ground := Go.Ground.data }], guard := none }) (v := ?v_2_13) rfl (by kernel_rfl) (by kernel_rfl) (by kernel_rfl) (fun _ _ _ h => h) (Or.inl ⟨by rfl, ?hy_2_13⟩) (by assumption) ?rest_2_13
            case hy_2_13 => (intro w hSw; (try dsimp only at hSw); go_simp; (try (with_reducible rfl)))
            (try simp only [Act.put, List.setIfInBounds_toArray, List.set_cons_succ, List.set_cons_zero])
            refine wpAnyH_done (by kernel_rfl) ?_ _
            clear e0 e1 e2 hHeld1
            go_wp2
            go_ret
            exact ⟨by rw [HV.out]; rfl, HBB.out.trans (HB2.out.mono HBB.out.size)⟩
          · have q1 : (t != t') = false := by rw [bne, ht]; rfl
            have HV : Hid (Val.fit (a.drop (i + 1)) (ts.drop (i + 1)) = Val.fit a ts) := Lib.hid (by rw [← HR.out, hd, hr, ht]; rfl)
            clear hd hr HR
            go_upto_region 6 with fail
            refine at_code (F := fun W => Var W wr.heap.size #[.int .i64 t, .int .u64 (n : Int)] 25 ∧ Below wr.heap.size wr W) ⟨Var.new _ _ _, (Below.refl wr.heap.size wr).alloc (Nat.le_refl _) _⟩ ?_
            rintro wx ⟨hvx, hbx⟩
            have HBX := Lib.hid hbx
            have g1 := (hbx.cell (p := ⟨gt, ot + i, none⟩) hgt).trans g0
            have hgx : gt < wx.heap.size := Nat.lt_of_lt_of_le hgt hbx.size
            clear f0 f1 g0 hbx
            have f0 := hvx.cells 0
            have f1 := hvx.cells 1
            simp only [List.getElem?_toArray, List.getElem?_cons_zero, List.getElem?_cons_succ] at f0 f1
            go_wp2
            refine wp_region_held_drew (S := fun w' => w'.cell? ⟨wr.heap.size, 0, none⟩ = some (.int .i64 t) ∧ w'.cell? ⟨wr.heap.size, 1, none⟩ = some (.int .u64 (n : Int)) ∧ w'.cell? ⟨gt, ot + i, none⟩ = some (.int .i64 t')) (by kernel_rfl) ?_ (fun hHeld0 => ?_)
            · first | assumption | go_keep
            refine wpAnyH_take (i := 0) (oi := { dst := some 19, op := Go.Op.load 25 (Go.Operand.tmp 6), type := 25, pos := "value.go:46", after := #[], guard := none }) (v := ?v_3_0) rfl (by kernel_rfl) (by kernel_rfl) (by kernel_rfl) (fun _ _ _ h => h) (Or.inl ⟨by rfl, ?hy_3_0⟩) (by assumption) ?rest_3_0
            case hy_3_0 => (intro w hSw; (try dsimp only at hSw); go_simp; (try (with_reducible rfl)))
            (try simp only [Act.put, List.setIfInBounds_toArray, List.set_cons_succ, List.set_cons_zero])
            refine wpAnyH_ready (rs := [1]) (by kernel_rfl) (by simp) ?_
            refine AllReadyH.cons (o := { dst := some 20, op := Go.Op.call { callee := Go.Callee.value (Go.Operand.func 8), args := #[Go.Operand.tmp 19], argTypes := #[25] }, type := 4, pos := "value.go:46", after := #[{ on := 0, ground := Go.Ground.data }], guard := none }) rfl (fun K hK => ?_) AllReadyH.nil
            go_simp
            ((with_reducible refine (HC.out _).mono ?_); rintro e w2 ⟨rfl, hb2⟩; have e0 := (hb2.cell (p := ⟨wr.heap.size, 0, none⟩) hvx.lt).trans f0; have e1 := (hb2.cell (p := ⟨wr.heap.size, 1, none⟩) hvx.lt).trans f1; have e2 := (hb2.cell (p := ⟨gt, ot + i, none⟩) hgx).trans g1; have HB2 := Lib.hid (HBX.out.trans (((below_drewN wx 1).trans hb2).mono HBX.out.size)); clear hb2)
            (try dsimp only)
            refine hK.out _ _ ?_ (fun hHeld1 => ?_)
            · first | trivial | ((try dsimp only); first | assumption | trivial | go_keep)
            clear hK K hHeld0
            (try simp only [Act.put, List.setIfInBounds_toArray, List.set_cons_succ, List.set_cons_zero])
            refine wpAnyH_take (i := 2) (oi := { dst := some 21, op := Go.Op.unOp Go.UnOp.not 4 (Go.Operand.tmp 20), type := 4, pos := "value.go:46", after := #[{ on := 1, ground := Go.Ground.data }], guard := none }) (v := ?v_3_2) rfl (by kernel_rfl) (by kernel_rfl) (by kernel_rfl) (fun _ _ _ h => h) (Or.inl ⟨by rfl, ?hy_3_2⟩) (by assumption) ?rest_3_2
            case hy_3_2 => (intro w hSw; (try dsimp only at hSw); go_simp; (try (with_reducible rfl)))
            (try simp only [Act.put, List.setIfInBounds_toArray, List.set_cons_succ, List.set_cons_zero])
            refine wpAnyH_take (i := 3) (oi := { dst := some 22, op := Go.Op.move (Go.Operand.tmp 21), type := 4, pos := "value.go:46", after := #[{ on := 2, ground := Go.Ground.data }, { on := 1, ground := Go.Ground.chain }], guard := none }) (v := ?v_3_3) rfl (by kernel_rfl) (by kernel_rfl) (by kernel_rfl) (fun _ _ _ h => h) (Or.inl ⟨by rfl, ?hy_3_3⟩) (by assumption) ?rest_3_3
            case hy_3_3 => (intro w hSw; (try dsimp only at hSw); go_simp; (try (with_reducible rfl)))
            (try simp only [Act.put, List.setIfInBounds_toArray, List.set_cons_succ, List.set_cons_zero])
            refine wpAnyH_take (i := 4) (oi := { dst := some 23, op := Go.Op.load 25 (Go.Operand.tmp 6), type := 25, pos := "value.go:46", after := #[{ on := 3, ground := Go.Ground.guard }], guard := some (3, false) }) (v := ?v_3_4) rfl (by kernel_rfl) (by kernel_rfl) (by kernel_rfl) (fun _ _ _ h => h) (Or.inl ⟨by rfl, ?hy_3_4⟩) (by assumption) ?rest_3_4
            case hy_3_4 => (intro w hSw; (try dsimp only at hSw); go_simp; (try (with_reducible rfl)))
            (try simp only [Act.put, List.setIfInBounds_toArray, List.set_cons_succ, List.set_cons_zero])
            refine wpAnyH_take (i := 5) (oi := { dst := some 24, op := Go.Op.move (Go.Operand.tmp 1), type := 36, pos := "value.go:46", after := #[{ on := 3, ground := Go.Ground.guard }], guard := some (3, false) }) (v := ?v_3_5) rfl (by kernel_rfl) (by kernel_rfl) (by kernel_rfl) (fun _ _ _ h => h) (Or.inl ⟨by rfl, ?hy_3_5⟩) (by assumption) ?rest_3_5
            case hy_3_5 => (intro w hSw; (try dsimp only at hSw); go_simp; (try (with_reducible rfl)))
            (try simp only [Act.put, List.setIfInBounds_toArray, List.set_cons_succ, List.set_cons_zero])
            refine wpAnyH_take (i := 6) (oi := { dst := some 25, op := Go.Op.move (Go.Operand.tmp 5), type := 3, pos := "value.go:46", after := #[{ on := 3, ground := Go.Ground.guard }], guard := some (3, false) }) (v := ?v_3_6) rfl (by kernel_rfl) (by kernel_rfl) (by kernel_rfl) (fun _ _ _ h => h) (Or.inl ⟨by rfl, ?hy_3_6⟩) (by assumption) ?rest_3_6
            case hy_3_6 => (intro w hSw; (try dsimp only at hSw); go_simp; (try (with_reducible rfl)))
            (try simp only [Act.put, List.setIfInBounds_toArray, List.set_cons_succ, List.set_cons_zero])
            refine wpAnyH_take (i := 7) (oi := { dst := some 26, op := Go.Op.indexAddr 36 (Go.Operand.tmp 24) (Go.Operand.tmp 25), type := 0, pos := "value.go:46", after := #[{ on := 5, ground := Go.Ground.data }, { on := 6, ground := Go.Ground.data }, { on := 3, ground := Go.Ground.guard }], guard := some (3, false) }) (v := ?v_3_7) rfl (by kernel_rfl) (by kernel_rfl) (by kernel_rfl) (fun _ _ _ h => h) (Or.inl ⟨by rfl, ?hy_3_7⟩) (by assumption) ?rest_3_7
            case hy_3_7 => (intro w hSw; (try dsimp only at hSw); go_simp; (try (with_reducible rfl)))
            (try simp only [Act.put, List.setIfInBounds_toArray, List.set_cons_succ, List.set_cons_zero])
            refine wpAnyH_take (i := 8) (oi := { dst := some 27, op := Go.Op.load 22 (Go.Operand.tmp 26), type := 22, pos := "value.go:46", after := #[{ on := 7, ground := Go.Ground.data }, { on := 3, ground := Go.Ground.guard }], guard := some (3, false) }) (v := ?v_3_8) rfl (by kernel_rfl) (by kernel_rfl) (by kernel_rfl) (fun _ _ _ h => h) (Or.inl ⟨by rfl, ?hy_3_8⟩) (by assumption) ?rest_3_8
            case hy_3_8 => (intro w hSw; (try dsimp only at hSw); go_simp; (try (with_reducible rfl)))
            (try simp only [Act.put, List.setIfInBounds_toArray, List.set_cons_succ, List.set_cons_zero])
            refine wpAnyH_take (i := 9) (oi := { dst := some 28, op := Go.Op.fieldAddr 25 (Go.Operand.tmp 6) 1, type := 0, pos := "value.go:46", after := #[{ on := 3, ground := Go.Ground.guard }], guard := some (3, false) }) (v := ?v_3_9) rfl (by kernel_rfl) (by kernel_rfl) (by kernel_rfl) (fun _ _ _ h => h) (Or.inl ⟨by rfl, ?hy_3_9⟩) (by assumption) ?rest_3_9
            case hy_3_9 => (intro w hSw; (try dsimp only at hSw); go_simp; (try (with_reducible rfl)))
            (try simp only [Act.put, List.setIfInBounds_toArray, List.set_cons_succ, List.set_cons_zero])
            refine wpAnyH_take (i := 10) (oi := { dst := some 29, op := Go.Op.load 23 (Go.Operand.tmp 28), type := 23, pos := "value.go:46", after := #[{ on := 9, ground := Go.Ground.data }, { on := 3, ground := Go.Ground.guard }], guard := some (3, false) }) (v := ?v_3_10) rfl (by kernel_rfl) (by kernel_rfl) (by kernel_rfl) (fun _ _ _ h => h) (Or.inl ⟨by rfl, ?hy_3_10⟩) (by assumption) ?rest_3_10
            case hy_3_10 => (intro w hSw; (try dsimp only at hSw); go_simp; (try (with_reducible rfl)))
            (try simp only [Act.put, List.setIfInBounds_toArray, List.set_cons_succ, List.set_cons_zero])
            refine wpAnyH_take (i := 11) (oi := { dst := some 30, op := Go.Op.build 25 #[(0, Go.Operand.tmp 27), (1, Go.Operand.tmp 29)], type := 25, pos := "value.go:46", after := #[{ on := 8, ground := Go.Ground.data }, { on := 10, ground := Go.Ground.data }, { on := 3, ground := Go.Ground.guard }], guard := some (3, false) }) (v := ?v_3_11) rfl (by kernel_rfl) (by kernel_rfl) (by kernel_rfl) (fun _ _ _ h => h) (Or.inl ⟨by rfl, ?hy_3_11⟩) (by assumption) ?rest_3_11
            case hy_3_11 => (intro w hSw; (try dsimp only at hSw); go_simp; (try (with_reducible rfl)))
            (try simp only [Act.put, List.setIfInBounds_toArray, List.set_cons_succ, List.set_cons_zero])
            refine wpAnyH_take (i := 12) (oi := { dst := some 31, op := Go.Op.binOp Go.BinOp.neq 25 (Go.Operand.tmp 23) (Go.Operand.tmp 30) 25, type := 4, pos := "value.go:46", after := #[{ on := 4, ground := Go.Ground.data }, { on := 11, ground := Go.Ground.data }, { on := 3, ground := Go.Ground.guard }], guard := some (3, false) }) (v := ?v_3_12) rfl (by kernel_rfl) (by kernel_rfl) (by kernel_rfl) (fun _ _ _ h => h) (Or.inl ⟨by rfl, ?hy_3_12⟩) (by assumption) ?rest_3_12
            case hy_3_12 => (intro w hSw; (try dsimp only at hSw); go_simp; (try (with_reducible rfl)))
            (try simp only [Act.put, List.setIfInBounds_toArray, List.set_cons_succ, List.set_cons_zero])
            refine wpAnyH_take (i := 13) (oi := { dst := some 32, op := Go.Op.pick (Go.Operand.tmp 22) (Go.Operand.const (Go.Value.bool true)) (Go.Operand.tmp 31), type := 4, pos := "value.go:46", after := #[{ on := 3, ground := Go.Ground.data }, { on := 12, ground := Go.Ground.data }], guard := none }) (v := ?v_3_13) rfl (by kernel_rfl) (by kernel_rfl) (by kernel_rfl) (fun _ _ _ h => h) (Or.inl ⟨by rfl, ?hy_3_13⟩) (by assumption) ?rest_3_13
            case hy_3_13 => (intro w hSw; (try dsimp only at hSw); go_simp; (try (with_reducible rfl)))
            (try simp only [Act.put, List.setIfInBounds_toArray, List.set_cons_succ, List.set_cons_zero])
            refine wpAnyH_done (by kernel_rfl) ?_ _
            clear e0 e1 e2 hHeld1
            have HB3 := Lib.hid (HB2.out.mono HBB.out.size)
            go_wp2
            go_round
            case rel => exact ⟨i + 1, by go_num, by omega, K1.out.below HB3.out, K2.out.below HB3.out, HBB.out.trans HB3.out, HV⟩
            case measure => simp [intOf]; omega
      · have hi2 : i = a.length := by omega
        have HV : Hid (Val.fit a ts = true) := Lib.hid (by rw [← HR.out, hi2, List.drop_length, show List.drop a.length ts = [] by rw [HL.out]; exact List.drop_length]; rfl)
        have x3 : decide (i < a.length) = false := by simpa using hia
        have x0 : ¬ ((i : Int) < (a.length : Int)) := by omega
        clear HR k1 k2
        go_wp2
        go_ret
        exact ⟨by rw [HV.out]; rfl, hB⟩
  · have d0 : ((a.length : Int) != (ts.length : Int)) = true := by simp; omega
    have d1 : (a.length != ts.length) = true := by simp; omega
    have HV := Lib.hid (fit_no hl)
    go_enter Tryd.func19, Tryd.ntmps19
    go_wp2
    go_ret
    exact ⟨by rw [HV.out]; rfl, Below.refl _ _⟩
end Go.Proofs.YtilflcbmejhepaaDoor
