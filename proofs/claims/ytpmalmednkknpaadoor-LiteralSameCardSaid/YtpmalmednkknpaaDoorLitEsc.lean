/-
  literal.escape: an escape behind the backslash.
-/
import Derived.Test.YtpmalmednkknpaaDoorLitPoint
import Derived.Deep.QuietTactic
import Derived.BigQuiet
import Derived.Deep.RegionHeld3
set_option linter.unusedVariables false
namespace Go.Proofs.YtpmalmednkknpaaDoor
open Go.RowKit
attribute [local go_sem] ByteArray.extract_mk

/-- One byte as a string. -/
theorem str_one {W : World} (c : Int) (h0 : 0 ≤ c) (h1 : c < 256) {g : Nat} (hg : W.heap[g]? = some (.cells #[.int .u8 c] 5 (0, 0))) : (convert 22 9 (.slice (some ⟨g, 0, none⟩) 1 1)).run Tryd.prog W = .ok (.string ⟨#[UInt8.ofNat c.toNat]⟩) W := by
  have hlt : g < W.heap.size := (Array.getElem?_eq_some_iff.1 hg).1
  have hr : RdB W W.heap.size (some ⟨g, 0, none⟩) [UInt8.ofNat c.toNat] := ⟨by simp [rb], fun _ => ⟨_, rfl, hlt, fun j u hj => by
    refine World.news_of_block hg j u ?_
    rw [← hj, byte_of c h0 h1]
    rfl⟩⟩
  exact str_n hr rfl 1

set_option maxHeartbeats 1000000 in
set_option maxRecDepth 100000 in
theorem escape_any (r : List UInt8) (w : World) (hl : r.length ≤ 1000000) :
    Calls Tryd.prog 24 #[.string ⟨r.toArray⟩] w (RetE (Ltr.esc r) w) := by
  cases r with
  | nil =>
    go_enter Tryd.func24, Tryd.ntmps24
    go_wp2
    go_ret3
    exact retE_mk rfl (Below.refl _ _)
  | cons c t =>
    have hb0 := lba_get (c :: t) 0 (by simp) c rfl
    have HS : Hid (∀ W : World, Calls Tryd.prog 32 #[.int .u8 (c.toNat : Int)] W (RetU8 (Ltr.simp1 c) W)) := Lib.hid (fun W => simple_any c W)
    have hE : Ltr.esc (c :: t) = match Ltr.simp1 c with
      | some d => ([d], 1, 0)
      | none => if c = 117 then Ltr.pointS t else Ltr.escT c t := rfl
    have hcl := c.toNat_lt
    have HD : Hid (∀ (c : UInt8) (W : World), Calls Tryd.prog 34 #[.int .u8 (c.toNat : Int)] W fun e w' => e = .returned (.int .i64 (Ltr.dig c)) ∧ W = w') := Lib.hid (fun c W => ldigit_any c W)
    cases hs : Ltr.simp1 c with
    | some d =>
      rw [hs] at HS hE
      have HE := Lib.hid hE
      have hdl := d.toNat_lt
      have hcv : ∀ (W : World), (convert 22 9 (.slice (some ⟨W.heap.size, 0, none⟩) 1 1)).run Tryd.prog (W.alloc (.cells #[.int .u8 (d.toNat : Int)] 5)) = .ok (.string ⟨#[d]⟩) (W.alloc (.cells #[.int .u8 (d.toNat : Int)] 5)) := fun W => by
        have := str_one (W := W.alloc (.cells #[.int .u8 (d.toNat : Int)] 5)) (d.toNat : Int) (by omega) (by omega) (heap_alloc_new W _)
        simpa using this
      clear hs hE
      go_enter Tryd.func24, Tryd.ntmps24
      go_wp2_with (go_at_call 32; refine (HS.out _).mono ?_; rintro e w1 ⟨rfl, rfl⟩; simp only [Option.getD_some, Option.isSome_some])
      go_ret3
      exact retE_mk HE.out ((Below.refl _ _).alloc (Nat.le_refl _) _)
    | none =>
      rw [hs] at HS hE
      by_cases hu : c = 117
      · have HE := Lib.hid (hE.trans (if_pos hu))
        have HP : Hid (∀ W : World, Calls Tryd.prog 33 #[.string ⟨(c :: t).toArray⟩] W (RetE (Ltr.pointS t) W)) := Lib.hid (fun W => by rw [hu]; exact point_any t W (by simp at hl; omega))
        have u1 : ((c.toNat : Int) == 117) = true := by subst hu; rfl
        clear hs hE hu
        go_enter Tryd.func24, Tryd.ntmps24
        go_wp2_with (first
          | (go_at_call 32; refine (HS.out _).mono ?_; rintro e w1 ⟨rfl, rfl⟩; simp only [Option.getD_none, Option.isSome_none])
          | (go_at_call 33; refine (HP.out _).mono ?_; rintro e w1 ⟨rfl, hb⟩))
        go_ret3
        exact retE_mk HE.out hb
      · have u1 := lcne c 117 (by omega) hu
        simp only [Int.cast_ofNat_Int] at u1
        replace hE := hE.trans (if_neg hu)
        cases t with
        | nil =>
          have HE := Lib.hid hE
          clear hs hE hu
          go_enter Tryd.func24, Tryd.ntmps24
          go_wp2_with (go_at_call 32; refine (HS.out _).mono ?_; rintro e w1 ⟨rfl, rfl⟩; simp only [Option.getD_none, Option.isSome_none])
          go_ret3
          exact retE_mk HE.out (Below.refl _ _)
        | cons d r =>
          have hb1 := lba_get (c :: d :: r) 1 (by simp) d rfl
          have HDc := Lib.hid (HD.out c)
          have HDd := Lib.hid (HD.out d)
          have b1 := Ltr.dig_le c
          have b2 := Ltr.dig_le d
          unfold Ltr.escT at hE
          dsimp only at hE
          generalize Ltr.dig c = x at *
          generalize Ltr.dig d = y at *
          clear HD hs hu
          by_cases hx : x < 0
          · have HE := Lib.hid (hE.trans (if_pos (.inl hx)))
            have d1 : decide (x < 0) = true := by simpa using hx
            clear hE
            go_enter Tryd.func24, Tryd.ntmps24
            go_wp2_with (first
              | (go_at_call 32; refine (HS.out _).mono ?_; rintro e w1 ⟨rfl, rfl⟩; simp only [Option.getD_none, Option.isSome_none])
              | (go_at_call 34; refine (HDc.out _).mono ?_; rintro e w1 ⟨rfl, rfl⟩))
            go_ret3
            exact retE_mk HE.out (Below.refl _ _)
          · have d1 : decide (x < 0) = false := by simpa using hx
            by_cases hy : y < 0
            · have HE := Lib.hid (hE.trans (if_pos (.inr hy)))
              have d2 : decide (y < 0) = true := by simpa using hy
              clear hE
              go_enter Tryd.func24, Tryd.ntmps24
              go_wp2_with fail
              refine (HS.out _).mono ?_
              rintro e w1 ⟨rfl, rfl⟩
              simp only [Option.getD_none, Option.isSome_none]
              go_wp2_with fail
              refine (HDc.out _).mono ?_
              rintro e w1 ⟨rfl, rfl⟩
              go_wp2_with fail
              refine (HDd.out _).mono ?_
              rintro e w1 ⟨rfl, rfl⟩
              go_wp2
              go_ret3
              exact retE_mk HE.out (Below.refl _ _)
            · have d2 : decide (y < 0) = false := by simpa using hy
              have HE := Lib.hid (hE.trans (if_neg (by omega)))
              clear hE
              obtain ⟨X, rfl⟩ := Int.eq_ofNat_of_zero_le (by omega : 0 ≤ x)
              obtain ⟨Y, rfl⟩ := Int.eq_ofNat_of_zero_le (by omega : 0 ≤ y)
              have w1 : IntKind.i64.wrap ((X : Int) * 16) = (X : Int) * 16 := by rw [IntKind.wrap_i64]; omega
              have w2 := or4 X (Y : Int) (by omega) (by omega) (by omega)
              have w3 : IntKind.u8.wrap ((X : Int) * 16 + (Y : Int)) = (X : Int) * 16 + (Y : Int) := by rw [IntKind.wrap_u8]; omega
              have hcv : (convert 22 9 (.slice (some ⟨w.heap.size, 0, none⟩) 1 1)).run Tryd.prog (w.alloc (.cells #[.int .u8 ((X : Int) * 16 + (Y : Int))] 5)).drew = .ok (.string ⟨#[UInt8.ofNat (16 * X + Y)]⟩) (w.alloc (.cells #[.int .u8 ((X : Int) * 16 + (Y : Int))] 5)).drew := by
                have := str_one (W := (w.alloc (.cells #[.int .u8 ((X : Int) * 16 + (Y : Int))] 5)).drew) ((X : Int) * 16 + (Y : Int)) (by omega) (by omega) (heap_alloc_new w _)
                rw [show ((X : Int) * 16 + (Y : Int)).toNat = 16 * X + Y from by omega] at this
                exact this
              go_enter Tryd.func24, Tryd.ntmps24
              go_wp2_with fail
              refine (HS.out _).mono ?_
              rintro e w1 ⟨rfl, rfl⟩
              simp only [Option.getD_none, Option.isSome_none]
              go_wp2_with fail
              refine (HDc.out _).mono ?_
              rintro e w1 ⟨rfl, rfl⟩
              go_wp2_with fail
              refine (HDd.out _).mono ?_
              rintro e w1 ⟨rfl, rfl⟩
              go_wp2_with fail
              refine wp_region_held_drew (S := fun _ => True) (by kernel_rfl) ?_ (fun hHeld0 => ?_)
              · first | assumption | go_keep
              refine wpAnyH_take (i := 0) (oi := { dst := some 42, op := Go.Op.move (Go.Operand.tmp 0), type := 9, pos := "literal.go:71", after := #[], guard := none }) (v := ?v_1_0) rfl (by kernel_rfl) (by kernel_rfl) (by kernel_rfl) (fun _ _ _ h => h) (Or.inl ⟨by rfl, ?hy_1_0⟩) (by assumption) ?rest_1_0
              case hy_1_0 => (intro w hSw; (try dsimp only at hSw); go_simp; (try (with_reducible rfl)))
              (try simp only [Act.put, List.setIfInBounds_toArray, List.set_cons_succ, List.set_cons_zero])
              refine wpAnyH_take (i := 1) (oi := { dst := some 43, op := Go.Op.index 9 (Go.Operand.tmp 42) (Go.Operand.const (Go.Value.int Go.IntKind.i64 0)), type := 5, pos := "literal.go:71", after := #[{ on := 0, ground := Go.Ground.data }], guard := none }) (v := ?v_1_1) rfl (by kernel_rfl) (by kernel_rfl) (by kernel_rfl) (fun _ _ _ h => h) (Or.inl ⟨by rfl, ?hy_1_1⟩) (by assumption) ?rest_1_1
              case hy_1_1 => (intro w hSw; (try dsimp only at hSw); go_simp; (try (with_reducible rfl)))
              (try simp only [Act.put, List.setIfInBounds_toArray, List.set_cons_succ, List.set_cons_zero])
              refine wpAnyH_take (i := 4) (oi := { dst := some 46, op := Go.Op.move (Go.Operand.tmp 0), type := 9, pos := "literal.go:71", after := #[], guard := none }) (v := ?v_1_4) rfl (by kernel_rfl) (by kernel_rfl) (by kernel_rfl) (fun _ _ _ h => h) (Or.inl ⟨by rfl, ?hy_1_4⟩) (by assumption) ?rest_1_4
              case hy_1_4 => (intro w hSw; (try dsimp only at hSw); go_simp; (try (with_reducible rfl)))
              (try simp only [Act.put, List.setIfInBounds_toArray, List.set_cons_succ, List.set_cons_zero])
              refine wpAnyH_take (i := 5) (oi := { dst := some 47, op := Go.Op.index 9 (Go.Operand.tmp 46) (Go.Operand.const (Go.Value.int Go.IntKind.i64 1)), type := 5, pos := "literal.go:71", after := #[{ on := 4, ground := Go.Ground.data }], guard := none }) (v := ?v_1_5) rfl (by kernel_rfl) (by kernel_rfl) (by kernel_rfl) (fun _ _ _ h => h) (Or.inl ⟨by rfl, ?hy_1_5⟩) (by assumption) ?rest_1_5
              case hy_1_5 => (intro w hSw; (try dsimp only at hSw); go_simp; (try (with_reducible rfl)))
              (try simp only [Act.put, List.setIfInBounds_toArray, List.set_cons_succ, List.set_cons_zero])
              refine wpAnyH_ready (rs := [2]) (by kernel_rfl) (by simp) ?_
              refine AllReadyH.cons (o := { dst := some 44, op := Go.Op.call { callee := Go.Callee.value (Go.Operand.func 34), args := #[Go.Operand.tmp 43], argTypes := #[5] }, type := 3, pos := "literal.go:71", after := #[{ on := 1, ground := Go.Ground.data }], guard := none }) rfl (fun K hK => ?_) AllReadyH.nil
              go_simp
              (go_at_call 34; refine (HDc.out _).mono ?_; rintro e w1 ⟨rfl, rfl⟩)
              (try dsimp only)
              refine hK.out _ _ ?_ (fun hHeld1 => ?_)
              · trivial
              clear hK K hHeld0
              (try simp only [Act.put, List.setIfInBounds_toArray, List.set_cons_succ, List.set_cons_zero])
              refine wpAnyH_take (i := 3) (oi := { dst := some 45, op := Go.Op.binOp Go.BinOp.shl 3 (Go.Operand.tmp 44) (Go.Operand.const (Go.Value.int Go.IntKind.u64 4)) 39, type := 3, pos := "literal.go:71", after := #[{ on := 2, ground := Go.Ground.data }], guard := none }) (v := ?v_1_3) rfl (by kernel_rfl) (by kernel_rfl) (by kernel_rfl) (fun _ _ _ h => h) (Or.inl ⟨by rfl, ?hy_1_3⟩) (by assumption) ?rest_1_3
              case hy_1_3 => (intro w hSw; (try dsimp only at hSw); go_simp; (try (with_reducible rfl)))
              (try simp only [Act.put, List.setIfInBounds_toArray, List.set_cons_succ, List.set_cons_zero])
              refine wpAnyH_ready (rs := [6]) (by kernel_rfl) (by simp) ?_
              refine AllReadyH.cons (o := { dst := some 48, op := Go.Op.call { callee := Go.Callee.value (Go.Operand.func 34), args := #[Go.Operand.tmp 47], argTypes := #[5] }, type := 3, pos := "literal.go:71", after := #[{ on := 5, ground := Go.Ground.data }, { on := 2, ground := Go.Ground.chain }], guard := none }) rfl (fun K hK => ?_) AllReadyH.nil
              go_simp
              (go_at_call 34; refine (HDd.out _).mono ?_; rintro e w1 ⟨rfl, rfl⟩)
              (try dsimp only)
              refine hK.out _ _ ?_ (fun hHeld2 => ?_)
              · trivial
              clear hK K hHeld1
              (try simp only [Act.put, List.setIfInBounds_toArray, List.set_cons_succ, List.set_cons_zero])
              refine wpAnyH_take (i := 7) (oi := { dst := some 49, op := Go.Op.binOp Go.BinOp.or 3 (Go.Operand.tmp 45) (Go.Operand.tmp 48) 3, type := 3, pos := "literal.go:71", after := #[{ on := 3, ground := Go.Ground.data }, { on := 6, ground := Go.Ground.data }], guard := none }) (v := ?v_1_7) rfl (by kernel_rfl) (by kernel_rfl) (by kernel_rfl) (fun _ _ _ h => h) (Or.inl ⟨by rfl, ?hy_1_7⟩) (by assumption) ?rest_1_7
              case hy_1_7 => (intro w hSw; (try dsimp only at hSw); go_simp; (try (with_reducible rfl)))
              (try simp only [Act.put, List.setIfInBounds_toArray, List.set_cons_succ, List.set_cons_zero])
              refine wpAnyH_take (i := 8) (oi := { dst := some 50, op := Go.Op.convert 3 5 (Go.Operand.tmp 49), type := 5, pos := "literal.go:71", after := #[{ on := 7, ground := Go.Ground.data }], guard := none }) (v := ?v_1_8) rfl (by kernel_rfl) (by kernel_rfl) (by kernel_rfl) (fun _ _ _ h => h) (Or.inl ⟨by rfl, ?hy_1_8⟩) (by assumption) ?rest_1_8
              case hy_1_8 => (intro w hSw; (try dsimp only at hSw); go_simp; (try (with_reducible rfl)))
              (try simp only [Act.put, List.setIfInBounds_toArray, List.set_cons_succ, List.set_cons_zero])
              refine wpAnyH_ready (rs := [9]) (by kernel_rfl) (by simp) ?_
              refine AllReadyH.cons (o := { dst := some 51, op := Go.Op.buildSlice 22 1 #[(0, Go.Operand.tmp 50)], type := 22, pos := "literal.go:71", after := #[{ on := 8, ground := Go.Ground.data }], guard := none }) rfl (fun K hK => ?_) AllReadyH.nil
              go_simp
              skip
              (try dsimp only)
              refine hK.out _ _ ?_ (fun hHeld3 => ?_)
              · trivial
              clear hK K hHeld2
              (try simp only [Act.put, List.setIfInBounds_toArray, List.set_cons_succ, List.set_cons_zero])
              refine wpAnyH_ready (rs := [10]) (by kernel_rfl) (by simp) ?_
              refine AllReadyH.cons (o := { dst := some 52, op := Go.Op.convert 22 9 (Go.Operand.tmp 51), type := 9, pos := "literal.go:71", after := #[{ on := 9, ground := Go.Ground.data }], guard := none }) rfl (fun K hK => ?_) AllReadyH.nil
              go_simp
              skip
              (try dsimp only)
              refine hK.out _ _ ?_ (fun hHeld4 => ?_)
              · trivial
              clear hK K hHeld3
              (try simp only [Act.put, List.setIfInBounds_toArray, List.set_cons_succ, List.set_cons_zero])
              refine wpAnyH_take (i := 11) (oi := { dst := some 2, op := Go.Op.assign (Go.Operand.tmp 52), type := 9, pos := "literal.go:71", after := #[{ on := 10, ground := Go.Ground.data }, { on := 6, ground := Go.Ground.chain }, { on := 0, ground := Go.Ground.phase }, { on := 1, ground := Go.Ground.phase }, { on := 2, ground := Go.Ground.phase }, { on := 3, ground := Go.Ground.phase }, { on := 4, ground := Go.Ground.phase }, { on := 5, ground := Go.Ground.phase }, { on := 6, ground := Go.Ground.phase }, { on := 7, ground := Go.Ground.phase }, { on := 8, ground := Go.Ground.phase }, { on := 9, ground := Go.Ground.phase }, { on := 10, ground := Go.Ground.phase }], guard := none }) (v := ?v_1_11) rfl (by kernel_rfl) (by kernel_rfl) (by kernel_rfl) (fun _ _ _ h => h) (Or.inl ⟨by rfl, ?hy_1_11⟩) (by assumption) ?rest_1_11
              case hy_1_11 => (intro w hSw; (try dsimp only at hSw); go_simp; (try (with_reducible rfl)))
              (try simp only [Act.put, List.setIfInBounds_toArray, List.set_cons_succ, List.set_cons_zero])
              refine wpAnyH_take (i := 12) (oi := { dst := some 3, op := Go.Op.assign (Go.Operand.const (Go.Value.int Go.IntKind.i64 2)), type := 3, pos := "literal.go:71", after := #[{ on := 11, ground := Go.Ground.chain }, { on := 0, ground := Go.Ground.phase }, { on := 1, ground := Go.Ground.phase }, { on := 2, ground := Go.Ground.phase }, { on := 3, ground := Go.Ground.phase }, { on := 4, ground := Go.Ground.phase }, { on := 5, ground := Go.Ground.phase }, { on := 6, ground := Go.Ground.phase }, { on := 7, ground := Go.Ground.phase }, { on := 8, ground := Go.Ground.phase }, { on := 9, ground := Go.Ground.phase }, { on := 10, ground := Go.Ground.phase }, { on := 11, ground := Go.Ground.phase }], guard := none }) (v := ?v_1_12) rfl (by kernel_rfl) (by kernel_rfl) (by kernel_rfl) (fun _ _ _ h => h) (Or.inl ⟨by rfl, ?hy_1_12⟩) (by assumption) ?rest_1_12
              case hy_1_12 => (intro w hSw; (try dsimp only at hSw); go_simp; (try (with_reducible rfl)))
              (try simp only [Act.put, List.setIfInBounds_toArray, List.set_cons_succ, List.set_cons_zero])
              refine wpAnyH_take (i := 13) (oi := { dst := some 4, op := Go.Op.assign (Go.Operand.const (Go.Value.int Go.IntKind.i64 0)), type := 24, pos := "literal.go:71", after := #[{ on := 12, ground := Go.Ground.chain }, { on := 0, ground := Go.Ground.phase }, { on := 1, ground := Go.Ground.phase }, { on := 2, ground := Go.Ground.phase }, { on := 3, ground := Go.Ground.phase }, { on := 4, ground := Go.Ground.phase }, { on := 5, ground := Go.Ground.phase }, { on := 6, ground := Go.Ground.phase }, { on := 7, ground := Go.Ground.phase }, { on := 8, ground := Go.Ground.phase }, { on := 9, ground := Go.Ground.phase }, { on := 10, ground := Go.Ground.phase }, { on := 11, ground := Go.Ground.phase }, { on := 12, ground := Go.Ground.phase }], guard := none }) (v := ?v_1_13) rfl (by kernel_rfl) (by kernel_rfl) (by kernel_rfl) (fun _ _ _ h => h) (Or.inl ⟨by rfl, ?hy_1_13⟩) (by assumption) ?rest_1_13
              case hy_1_13 => (intro w hSw; (try dsimp only at hSw); go_simp; (try (with_reducible rfl)))
              (try simp only [Act.put, List.setIfInBounds_toArray, List.set_cons_succ, List.set_cons_zero])
              refine wpAnyH_done (by kernel_rfl) ?_ _
              go_wp2
              go_ret3
              exact retE_mk (HE.out.trans (by simp)) ((Below.refl _ _).alloc (Nat.le_refl _) _).drew
end Go.Proofs.YtpmalmednkknpaaDoor
