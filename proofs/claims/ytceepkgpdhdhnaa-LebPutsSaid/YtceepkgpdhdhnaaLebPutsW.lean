/-
  The walk of the law LebPuts.
-/
import Derived.Test.YtceepkgpdhdhnaaLebAlive
import Derived.Test.YtceepkgpdhdhnaaLebRefPut
import Derived.Test.YtceepkgpdhdhnaaLebSpare
import Derived.Deep.RegionHeld3
set_option linter.unusedVariables false
namespace Go.Proofs.Ytceepkgpdhdhnaa
open Go.RowKit

theorem cv {W : World} {B : Nat} {A : Option Addr} {l : List UInt8} (h : RdB W B A l) (c : Nat) :
    (convert 22 9 (.slice A l.length c)).run Try.prog W = .ok (.string ⟨l.toArray⟩) W :=
  run_string_of_bytes (P := Try.prog) W 22 9 5 Try.underlying22 Try.underlying5 Try.underlying9 h c

/-- The ways through a part of a region that draws its order meet behind it: the rest is walked once. -/
theorem rest_of {P : Program} {md : Region.Mode} {ops : Array Oper} {Q : Exit → Act → World → Prop} {S : World → Prop} {fuel : Nat} {L : Array Bool} {a : Option Addr → Nat → Option Addr → Nat → Act} {G : Prop}
    {F : Option Addr → Nat → Option Addr → Nat → World → Prop} (main : (∀ A c B d W, F A c B d W → wpAnyH P md ops Q S fuel L (a A c B d) W) → G) (rest : ∀ A c B d W, F A c B d W → wpAnyH P md ops Q S fuel L (a A c B d) W) : G := main rest

set_option maxHeartbeats 100000000 in
set_option maxRecDepth 100000 in
theorem lebPuts_walk (A : Option Addr) (c : Nat) (l : List UInt8) (n : Nat) (k : Int) (w : World) (hr : RdB w w.heap.size A l) (hmax : l.length ≤ 9223372036854775807) (hn : InU64 n) (hk : InI64 k) :
    Calls Try.prog 3 #[.slice A l.length c, .int .u64 n, .int .i64 k] w fun e w' => e = .returned (.bool true) ∧ Below w.heap.size w w' := by
  by_cases hbig : 100 < l.length
  · go_enter Try.func3, Try.ntmps3
    go_wp2_with (go_at_call 9; refine (alive_any _).mono ?_; rintro e w1 ⟨rfl, hb⟩)
    go_ret
    exact ⟨rfl, hb⟩
  have hl100 : l.length ≤ 100 := by omega
  have g1 : decide ((100 : Int) < (l.length : Int)) = false := by simp; omega
  clear hmax hbig
  obtain ⟨L, hL⟩ : ∃ L, l ++ Leb.putU n = L := ⟨_, rfl⟩
  obtain ⟨M, hM⟩ : ∃ M, l ++ Leb.putS k = M := ⟨_, rfl⟩
  have C1 : Hid (∀ W : World, RdB W W.heap.size A l → Calls Try.prog 10 #[.slice A l.length c, .int .u64 n] W (RetB L W)) := fun W h => by rw [← hL]; exact putU_any A c l n W h (by omega) hn
  have C2 : Hid (∀ W : World, RdB W W.heap.size A l → Calls Try.prog 11 #[.slice A l.length c, .int .u64 n] W (RetB L W)) := fun W h => by rw [← hL]; exact refPutU_any A c l n W h (by omega) hn
  have C3 : Hid (∀ W : World, RdB W W.heap.size A l → Calls Try.prog 12 #[.slice A l.length c, .int .i64 k] W (RetB M W)) := fun W h => by rw [← hM]; exact putS_any A c l k W h (by omega) hk
  have C4 : Hid (∀ W : World, RdB W W.heap.size A l → Calls Try.prog 13 #[.slice A l.length c, .int .i64 k] W (RetB M W)) := fun W h => by rw [← hM]; exact refPutS_any A c l k W h (by omega) hk
  clear hL hM
  go_enter Try.func3, Try.ntmps3
  go_wp2_with fail
  refine wp_region_held_drew (S := fun _ => True) (by kernel_rfl) trivial (fun _ => ?_)
  apply rest_of (F := fun _ _ _ _ W => RdB W w.heap.size A l ∧ Below w.heap.size w W)
  · intro REST1
    refine wpAnyH_take (i := 0) (oi := { dst := some 11, op := Go.Op.move (Go.Operand.tmp 0), type := 22, pos := "law.go:38", after := #[], guard := none }) (v := ?vp1) rfl (by kernel_rfl) (by kernel_rfl) (by kernel_rfl) (fun _ _ _ h => h) (Or.inl ⟨by rfl, ?hyp1⟩) trivial ?restp1
    case hyp1 => (intro w hSw; go_simp; (try (with_reducible rfl)))
    (try simp only [Act.put, List.setIfInBounds_toArray, List.set_cons_succ, List.set_cons_zero])
    refine wpAnyH_take (i := 1) (oi := { dst := some 12, op := Go.Op.move (Go.Operand.tmp 1), type := 23, pos := "law.go:38", after := #[], guard := none }) (v := ?vp2) rfl (by kernel_rfl) (by kernel_rfl) (by kernel_rfl) (fun _ _ _ h => h) (Or.inl ⟨by rfl, ?hyp2⟩) trivial ?restp2
    case hyp2 => (intro w hSw; go_simp; (try (with_reducible rfl)))
    (try simp only [Act.put, List.setIfInBounds_toArray, List.set_cons_succ, List.set_cons_zero])
    refine wpAnyH_take (i := 4) (oi := { dst := some 15, op := Go.Op.move (Go.Operand.tmp 0), type := 22, pos := "law.go:38", after := #[], guard := none }) (v := ?vp3) rfl (by kernel_rfl) (by kernel_rfl) (by kernel_rfl) (fun _ _ _ h => h) (Or.inl ⟨by rfl, ?hyp3⟩) trivial ?restp3
    case hyp3 => (intro w hSw; go_simp; (try (with_reducible rfl)))
    (try simp only [Act.put, List.setIfInBounds_toArray, List.set_cons_succ, List.set_cons_zero])
    refine wpAnyH_take (i := 5) (oi := { dst := some 16, op := Go.Op.move (Go.Operand.tmp 1), type := 23, pos := "law.go:38", after := #[], guard := none }) (v := ?vp4) rfl (by kernel_rfl) (by kernel_rfl) (by kernel_rfl) (fun _ _ _ h => h) (Or.inl ⟨by rfl, ?hyp4⟩) trivial ?restp4
    case hyp4 => (intro w hSw; go_simp; (try (with_reducible rfl)))
    (try simp only [Act.put, List.setIfInBounds_toArray, List.set_cons_succ, List.set_cons_zero])
    refine wpAnyH_ready (rs := [2]) (by kernel_rfl) (by simp) ?_
    refine (AllReadyH.cons (o := { dst := some 13, op := Go.Op.call { callee := Go.Callee.value (Go.Operand.func 10), args := #[Go.Operand.tmp 11, Go.Operand.tmp 12], argTypes := #[22, 23] }, type := 22, pos := "law.go:38", after := #[{ on := 0, ground := Go.Ground.data }, { on := 1, ground := Go.Ground.data }], guard := none }) rfl (fun K hK => ?_) AllReadyH.nil)
    go_simp
    (go_at_call 10; refine (C1.out _ ?_).mono ?_; exact hr; rintro e w1 ⟨A1, c1, rfl, hown1, hc1, hb1⟩; have b1 : Below w.heap.size w w1 := (Below.refl _ _).drew.trans hb1; have R1 := RdB.of_own hown1; have hr1 : RdB w1 w.heap.size A l := hr.drew.below hb1; have cv1 := cv R1 c1; clear hown1 hc1)
    (try dsimp only)
    refine hK.out _ _ trivial (fun _ => ?_)
    clear hK K
    (try simp only [Act.put, List.setIfInBounds_toArray, List.set_cons_succ, List.set_cons_zero])
    refine wpAnyH_ready (rs := [3, 6]) (by kernel_rfl) (by simp) ?_
    refine (AllReadyH.cons (o := { dst := some 14, op := Go.Op.convert 22 9 (Go.Operand.tmp 13), type := 9, pos := "law.go:38", after := #[{ on := 2, ground := Go.Ground.data }], guard := none }) rfl (fun K hK => ?_) (AllReadyH.cons (o := { dst := some 17, op := Go.Op.call { callee := Go.Callee.value (Go.Operand.func 11), args := #[Go.Operand.tmp 15, Go.Operand.tmp 16], argTypes := #[22, 23] }, type := 22, pos := "law.go:38", after := #[{ on := 4, ground := Go.Ground.data }, { on := 5, ground := Go.Ground.data }, { on := 2, ground := Go.Ground.chain }], guard := none }) rfl (fun K hK => ?_) AllReadyH.nil))
    · skip
      go_simp
      (try dsimp only)
      refine hK.out _ _ trivial (fun _ => ?_)
      clear hK K
      (try simp only [Act.put, List.setIfInBounds_toArray, List.set_cons_succ, List.set_cons_zero])
      refine wpAnyH_ready (rs := [6]) (by kernel_rfl) (by simp) ?_
      refine (AllReadyH.cons (o := { dst := some 17, op := Go.Op.call { callee := Go.Callee.value (Go.Operand.func 11), args := #[Go.Operand.tmp 15, Go.Operand.tmp 16], argTypes := #[22, 23] }, type := 22, pos := "law.go:38", after := #[{ on := 4, ground := Go.Ground.data }, { on := 5, ground := Go.Ground.data }, { on := 2, ground := Go.Ground.chain }], guard := none }) rfl (fun K hK => ?_) AllReadyH.nil)
      go_simp
      (go_at_call 11; refine (C2.out _ ?_).mono ?_; exact (hr1.more b1.size); rintro e w2 ⟨A2, c2, rfl, hown2, hc2, hb2⟩; have b2 := b1.trans (hb2.mono b1.size); have R2 := RdB.of_own hown2; have hr2 : RdB w2 w.heap.size A l := hr1.below (hb2.mono b1.size); have cv2 := cv R2 c2; have cv1 := cv (R1.below hb2) c1; clear hown2 hc2)
      (try dsimp only)
      refine hK.out _ _ trivial (fun _ => ?_)
      clear hK K
      (try simp only [Act.put, List.setIfInBounds_toArray, List.set_cons_succ, List.set_cons_zero])
      refine wpAnyH_ready (rs := [7]) (by kernel_rfl) (by simp) ?_
      refine (AllReadyH.cons (o := { dst := some 18, op := Go.Op.convert 22 9 (Go.Operand.tmp 17), type := 9, pos := "law.go:38", after := #[{ on := 6, ground := Go.Ground.data }], guard := none }) rfl (fun K hK => ?_) AllReadyH.nil)
      go_simp
      (try dsimp only)
      refine hK.out _ _ trivial (fun _ => ?_)
      clear hK K
      (try simp only [Act.put, List.setIfInBounds_toArray, List.set_cons_succ, List.set_cons_zero])
      refine wpAnyH_take (i := 8) (oi := { dst := some 19, op := Go.Op.binOp Go.BinOp.eql 9 (Go.Operand.tmp 14) (Go.Operand.tmp 18) 9, type := 4, pos := "law.go:38", after := #[{ on := 3, ground := Go.Ground.data }, { on := 7, ground := Go.Ground.data }], guard := none }) (v := ?vp5) rfl (by kernel_rfl) (by kernel_rfl) (by kernel_rfl) (fun _ _ _ h => h) (Or.inl ⟨by rfl, ?hyp5⟩) trivial ?restp5
      case hyp5 => (intro w hSw; go_simp; (try (with_reducible rfl)))
      (try simp only [Act.put, List.setIfInBounds_toArray, List.set_cons_succ, List.set_cons_zero])
      refine wpAnyH_take (i := 9) (oi := { dst := some 20, op := Go.Op.move (Go.Operand.tmp 19), type := 4, pos := "law.go:38", after := #[{ on := 8, ground := Go.Ground.data }, { on := 6, ground := Go.Ground.chain }], guard := none }) (v := ?vp6) rfl (by kernel_rfl) (by kernel_rfl) (by kernel_rfl) (fun _ _ _ h => h) (Or.inl ⟨by rfl, ?hyp6⟩) trivial ?restp6
      case hyp6 => (intro w hSw; go_simp; (try (with_reducible rfl)))
      (try simp only [Act.put, List.setIfInBounds_toArray, List.set_cons_succ, List.set_cons_zero])
      exact REST1 A1 c1 A2 c2 w2 ⟨hr2, b2⟩
    · skip
      go_simp
      (go_at_call 11; refine (C2.out _ ?_).mono ?_; exact (hr1.more b1.size); rintro e w2 ⟨A2, c2, rfl, hown2, hc2, hb2⟩; have b2 := b1.trans (hb2.mono b1.size); have R2 := RdB.of_own hown2; have hr2 : RdB w2 w.heap.size A l := hr1.below (hb2.mono b1.size); have cv2 := cv R2 c2; have cv1 := cv (R1.below hb2) c1; clear hown2 hc2)
      (try dsimp only)
      refine hK.out _ _ trivial (fun _ => ?_)
      clear hK K
      (try simp only [Act.put, List.setIfInBounds_toArray, List.set_cons_succ, List.set_cons_zero])
      refine wpAnyH_ready (rs := [3, 7]) (by kernel_rfl) (by simp) ?_
      refine (AllReadyH.cons (o := { dst := some 14, op := Go.Op.convert 22 9 (Go.Operand.tmp 13), type := 9, pos := "law.go:38", after := #[{ on := 2, ground := Go.Ground.data }], guard := none }) rfl (fun K hK => ?_) (AllReadyH.cons (o := { dst := some 18, op := Go.Op.convert 22 9 (Go.Operand.tmp 17), type := 9, pos := "law.go:38", after := #[{ on := 6, ground := Go.Ground.data }], guard := none }) rfl (fun K hK => ?_) AllReadyH.nil))
      · skip
        go_simp
        (try dsimp only)
        refine hK.out _ _ trivial (fun _ => ?_)
        clear hK K
        (try simp only [Act.put, List.setIfInBounds_toArray, List.set_cons_succ, List.set_cons_zero])
        refine wpAnyH_ready (rs := [7]) (by kernel_rfl) (by simp) ?_
        refine (AllReadyH.cons (o := { dst := some 18, op := Go.Op.convert 22 9 (Go.Operand.tmp 17), type := 9, pos := "law.go:38", after := #[{ on := 6, ground := Go.Ground.data }], guard := none }) rfl (fun K hK => ?_) AllReadyH.nil)
        go_simp
        (try dsimp only)
        refine hK.out _ _ trivial (fun _ => ?_)
        clear hK K
        (try simp only [Act.put, List.setIfInBounds_toArray, List.set_cons_succ, List.set_cons_zero])
        refine wpAnyH_take (i := 8) (oi := { dst := some 19, op := Go.Op.binOp Go.BinOp.eql 9 (Go.Operand.tmp 14) (Go.Operand.tmp 18) 9, type := 4, pos := "law.go:38", after := #[{ on := 3, ground := Go.Ground.data }, { on := 7, ground := Go.Ground.data }], guard := none }) (v := ?vp7) rfl (by kernel_rfl) (by kernel_rfl) (by kernel_rfl) (fun _ _ _ h => h) (Or.inl ⟨by rfl, ?hyp7⟩) trivial ?restp7
        case hyp7 => (intro w hSw; go_simp; (try (with_reducible rfl)))
        (try simp only [Act.put, List.setIfInBounds_toArray, List.set_cons_succ, List.set_cons_zero])
        refine wpAnyH_take (i := 9) (oi := { dst := some 20, op := Go.Op.move (Go.Operand.tmp 19), type := 4, pos := "law.go:38", after := #[{ on := 8, ground := Go.Ground.data }, { on := 6, ground := Go.Ground.chain }], guard := none }) (v := ?vp8) rfl (by kernel_rfl) (by kernel_rfl) (by kernel_rfl) (fun _ _ _ h => h) (Or.inl ⟨by rfl, ?hyp8⟩) trivial ?restp8
        case hyp8 => (intro w hSw; go_simp; (try (with_reducible rfl)))
        (try simp only [Act.put, List.setIfInBounds_toArray, List.set_cons_succ, List.set_cons_zero])
        exact REST1 A1 c1 A2 c2 w2 ⟨hr2, b2⟩
      · skip
        go_simp
        (try dsimp only)
        refine hK.out _ _ trivial (fun _ => ?_)
        clear hK K
        (try simp only [Act.put, List.setIfInBounds_toArray, List.set_cons_succ, List.set_cons_zero])
        refine wpAnyH_ready (rs := [3]) (by kernel_rfl) (by simp) ?_
        refine (AllReadyH.cons (o := { dst := some 14, op := Go.Op.convert 22 9 (Go.Operand.tmp 13), type := 9, pos := "law.go:38", after := #[{ on := 2, ground := Go.Ground.data }], guard := none }) rfl (fun K hK => ?_) AllReadyH.nil)
        go_simp
        (try dsimp only)
        refine hK.out _ _ trivial (fun _ => ?_)
        clear hK K
        (try simp only [Act.put, List.setIfInBounds_toArray, List.set_cons_succ, List.set_cons_zero])
        refine wpAnyH_take (i := 8) (oi := { dst := some 19, op := Go.Op.binOp Go.BinOp.eql 9 (Go.Operand.tmp 14) (Go.Operand.tmp 18) 9, type := 4, pos := "law.go:38", after := #[{ on := 3, ground := Go.Ground.data }, { on := 7, ground := Go.Ground.data }], guard := none }) (v := ?vp9) rfl (by kernel_rfl) (by kernel_rfl) (by kernel_rfl) (fun _ _ _ h => h) (Or.inl ⟨by rfl, ?hyp9⟩) trivial ?restp9
        case hyp9 => (intro w hSw; go_simp; (try (with_reducible rfl)))
        (try simp only [Act.put, List.setIfInBounds_toArray, List.set_cons_succ, List.set_cons_zero])
        refine wpAnyH_take (i := 9) (oi := { dst := some 20, op := Go.Op.move (Go.Operand.tmp 19), type := 4, pos := "law.go:38", after := #[{ on := 8, ground := Go.Ground.data }, { on := 6, ground := Go.Ground.chain }], guard := none }) (v := ?vp10) rfl (by kernel_rfl) (by kernel_rfl) (by kernel_rfl) (fun _ _ _ h => h) (Or.inl ⟨by rfl, ?hyp10⟩) trivial ?restp10
        case hyp10 => (intro w hSw; go_simp; (try (with_reducible rfl)))
        (try simp only [Act.put, List.setIfInBounds_toArray, List.set_cons_succ, List.set_cons_zero])
        exact REST1 A1 c1 A2 c2 w2 ⟨hr2, b2⟩
  rintro A1 c1 A2 c2 w2 ⟨hr2, b2⟩
  clear C1 C2
  apply rest_of (F := fun _ _ _ _ W => RdB W w.heap.size A l ∧ Below w.heap.size w W)
  · intro REST2
    refine wpAnyH_take (i := 10) (oi := { dst := some 21, op := Go.Op.move (Go.Operand.tmp 0), type := 22, pos := "law.go:38", after := #[{ on := 9, ground := Go.Ground.guard }], guard := some (9, true) }) (v := ?vp11) rfl (by kernel_rfl) (by kernel_rfl) (by kernel_rfl) (fun _ _ _ h => h) (Or.inl ⟨by rfl, ?hyp11⟩) trivial ?restp11
    case hyp11 => (intro w hSw; go_simp; (try (with_reducible rfl)))
    (try simp only [Act.put, List.setIfInBounds_toArray, List.set_cons_succ, List.set_cons_zero])
    refine wpAnyH_take (i := 11) (oi := { dst := some 22, op := Go.Op.move (Go.Operand.tmp 2), type := 2, pos := "law.go:38", after := #[{ on := 9, ground := Go.Ground.guard }], guard := some (9, true) }) (v := ?vp12) rfl (by kernel_rfl) (by kernel_rfl) (by kernel_rfl) (fun _ _ _ h => h) (Or.inl ⟨by rfl, ?hyp12⟩) trivial ?restp12
    case hyp12 => (intro w hSw; go_simp; (try (with_reducible rfl)))
    (try simp only [Act.put, List.setIfInBounds_toArray, List.set_cons_succ, List.set_cons_zero])
    refine wpAnyH_take (i := 14) (oi := { dst := some 25, op := Go.Op.move (Go.Operand.tmp 0), type := 22, pos := "law.go:38", after := #[{ on := 9, ground := Go.Ground.guard }], guard := some (9, true) }) (v := ?vp13) rfl (by kernel_rfl) (by kernel_rfl) (by kernel_rfl) (fun _ _ _ h => h) (Or.inl ⟨by rfl, ?hyp13⟩) trivial ?restp13
    case hyp13 => (intro w hSw; go_simp; (try (with_reducible rfl)))
    (try simp only [Act.put, List.setIfInBounds_toArray, List.set_cons_succ, List.set_cons_zero])
    refine wpAnyH_take (i := 15) (oi := { dst := some 26, op := Go.Op.move (Go.Operand.tmp 2), type := 2, pos := "law.go:38", after := #[{ on := 9, ground := Go.Ground.guard }], guard := some (9, true) }) (v := ?vp14) rfl (by kernel_rfl) (by kernel_rfl) (by kernel_rfl) (fun _ _ _ h => h) (Or.inl ⟨by rfl, ?hyp14⟩) trivial ?restp14
    case hyp14 => (intro w hSw; go_simp; (try (with_reducible rfl)))
    (try simp only [Act.put, List.setIfInBounds_toArray, List.set_cons_succ, List.set_cons_zero])
    refine wpAnyH_ready (rs := [12]) (by kernel_rfl) (by simp) ?_
    refine (AllReadyH.cons (o := { dst := some 23, op := Go.Op.call { callee := Go.Callee.value (Go.Operand.func 12), args := #[Go.Operand.tmp 21, Go.Operand.tmp 22], argTypes := #[22, 2] }, type := 22, pos := "law.go:38", after := #[{ on := 10, ground := Go.Ground.data }, { on := 11, ground := Go.Ground.data }, { on := 9, ground := Go.Ground.chain }, { on := 9, ground := Go.Ground.guard }], guard := some (9, true) }) rfl (fun K hK => ?_) AllReadyH.nil)
    go_simp
    (go_at_call 12; refine (C3.out _ ?_).mono ?_; exact (hr2.more b2.size); rintro e w3 ⟨A3, c3, rfl, hown3, hc3, hb3⟩; have b3 := b2.trans (hb3.mono b2.size); have R3 := RdB.of_own hown3; have hr3 : RdB w3 w.heap.size A l := hr2.below (hb3.mono b2.size); have cv3 := cv R3 c3; clear hown3 hc3)
    (try dsimp only)
    refine hK.out _ _ trivial (fun _ => ?_)
    clear hK K
    (try simp only [Act.put, List.setIfInBounds_toArray, List.set_cons_succ, List.set_cons_zero])
    refine wpAnyH_ready (rs := [13, 16]) (by kernel_rfl) (by simp) ?_
    refine (AllReadyH.cons (o := { dst := some 24, op := Go.Op.convert 22 9 (Go.Operand.tmp 23), type := 9, pos := "law.go:38", after := #[{ on := 12, ground := Go.Ground.data }, { on := 9, ground := Go.Ground.guard }], guard := some (9, true) }) rfl (fun K hK => ?_) (AllReadyH.cons (o := { dst := some 27, op := Go.Op.call { callee := Go.Callee.value (Go.Operand.func 13), args := #[Go.Operand.tmp 25, Go.Operand.tmp 26], argTypes := #[22, 2] }, type := 22, pos := "law.go:38", after := #[{ on := 14, ground := Go.Ground.data }, { on := 15, ground := Go.Ground.data }, { on := 12, ground := Go.Ground.chain }, { on := 9, ground := Go.Ground.guard }], guard := some (9, true) }) rfl (fun K hK => ?_) AllReadyH.nil))
    · skip
      go_simp
      (try dsimp only)
      refine hK.out _ _ trivial (fun _ => ?_)
      clear hK K
      (try simp only [Act.put, List.setIfInBounds_toArray, List.set_cons_succ, List.set_cons_zero])
      refine wpAnyH_ready (rs := [16]) (by kernel_rfl) (by simp) ?_
      refine (AllReadyH.cons (o := { dst := some 27, op := Go.Op.call { callee := Go.Callee.value (Go.Operand.func 13), args := #[Go.Operand.tmp 25, Go.Operand.tmp 26], argTypes := #[22, 2] }, type := 22, pos := "law.go:38", after := #[{ on := 14, ground := Go.Ground.data }, { on := 15, ground := Go.Ground.data }, { on := 12, ground := Go.Ground.chain }, { on := 9, ground := Go.Ground.guard }], guard := some (9, true) }) rfl (fun K hK => ?_) AllReadyH.nil)
      go_simp
      (go_at_call 13; refine (C4.out _ ?_).mono ?_; exact (hr3.more b3.size); rintro e w4 ⟨A4, c4, rfl, hown4, hc4, hb4⟩; have b4 := b3.trans (hb4.mono b3.size); have R4 := RdB.of_own hown4; have hr4 : RdB w4 w.heap.size A l := hr3.below (hb4.mono b3.size); have cv4 := cv R4 c4; have cv3 := cv (R3.below hb4) c3; clear hown4 hc4)
      (try dsimp only)
      refine hK.out _ _ trivial (fun _ => ?_)
      clear hK K
      (try simp only [Act.put, List.setIfInBounds_toArray, List.set_cons_succ, List.set_cons_zero])
      refine wpAnyH_ready (rs := [17]) (by kernel_rfl) (by simp) ?_
      refine (AllReadyH.cons (o := { dst := some 28, op := Go.Op.convert 22 9 (Go.Operand.tmp 27), type := 9, pos := "law.go:38", after := #[{ on := 16, ground := Go.Ground.data }, { on := 9, ground := Go.Ground.guard }], guard := some (9, true) }) rfl (fun K hK => ?_) AllReadyH.nil)
      go_simp
      (try dsimp only)
      refine hK.out _ _ trivial (fun _ => ?_)
      clear hK K
      (try simp only [Act.put, List.setIfInBounds_toArray, List.set_cons_succ, List.set_cons_zero])
      refine wpAnyH_take (i := 18) (oi := { dst := some 29, op := Go.Op.binOp Go.BinOp.eql 9 (Go.Operand.tmp 24) (Go.Operand.tmp 28) 9, type := 4, pos := "law.go:38", after := #[{ on := 13, ground := Go.Ground.data }, { on := 17, ground := Go.Ground.data }, { on := 9, ground := Go.Ground.guard }], guard := some (9, true) }) (v := ?vp15) rfl (by kernel_rfl) (by kernel_rfl) (by kernel_rfl) (fun _ _ _ h => h) (Or.inl ⟨by rfl, ?hyp15⟩) trivial ?restp15
      case hyp15 => (intro w hSw; go_simp; (try (with_reducible rfl)))
      (try simp only [Act.put, List.setIfInBounds_toArray, List.set_cons_succ, List.set_cons_zero])
      refine wpAnyH_take (i := 19) (oi := { dst := some 30, op := Go.Op.pick (Go.Operand.tmp 20) (Go.Operand.tmp 29) (Go.Operand.const (Go.Value.bool false)), type := 4, pos := "law.go:38", after := #[{ on := 9, ground := Go.Ground.data }, { on := 18, ground := Go.Ground.data }], guard := none }) (v := ?vp16) rfl (by kernel_rfl) (by kernel_rfl) (by kernel_rfl) (fun _ _ _ h => h) (Or.inl ⟨by rfl, ?hyp16⟩) trivial ?restp16
      case hyp16 => (intro w hSw; go_simp; (try (with_reducible rfl)))
      (try simp only [Act.put, List.setIfInBounds_toArray, List.set_cons_succ, List.set_cons_zero])
      refine wpAnyH_take (i := 20) (oi := { dst := some 31, op := Go.Op.move (Go.Operand.tmp 30), type := 4, pos := "law.go:38", after := #[{ on := 19, ground := Go.Ground.data }, { on := 16, ground := Go.Ground.chain }], guard := none }) (v := ?vp17) rfl (by kernel_rfl) (by kernel_rfl) (by kernel_rfl) (fun _ _ _ h => h) (Or.inl ⟨by rfl, ?hyp17⟩) trivial ?restp17
      case hyp17 => (intro w hSw; go_simp; (try (with_reducible rfl)))
      (try simp only [Act.put, List.setIfInBounds_toArray, List.set_cons_succ, List.set_cons_zero])
      exact REST2 A3 c3 A4 c4 w4 ⟨hr4, b4⟩
    · skip
      go_simp
      (go_at_call 13; refine (C4.out _ ?_).mono ?_; exact (hr3.more b3.size); rintro e w4 ⟨A4, c4, rfl, hown4, hc4, hb4⟩; have b4 := b3.trans (hb4.mono b3.size); have R4 := RdB.of_own hown4; have hr4 : RdB w4 w.heap.size A l := hr3.below (hb4.mono b3.size); have cv4 := cv R4 c4; have cv3 := cv (R3.below hb4) c3; clear hown4 hc4)
      (try dsimp only)
      refine hK.out _ _ trivial (fun _ => ?_)
      clear hK K
      (try simp only [Act.put, List.setIfInBounds_toArray, List.set_cons_succ, List.set_cons_zero])
      refine wpAnyH_ready (rs := [13, 17]) (by kernel_rfl) (by simp) ?_
      refine (AllReadyH.cons (o := { dst := some 24, op := Go.Op.convert 22 9 (Go.Operand.tmp 23), type := 9, pos := "law.go:38", after := #[{ on := 12, ground := Go.Ground.data }, { on := 9, ground := Go.Ground.guard }], guard := some (9, true) }) rfl (fun K hK => ?_) (AllReadyH.cons (o := { dst := some 28, op := Go.Op.convert 22 9 (Go.Operand.tmp 27), type := 9, pos := "law.go:38", after := #[{ on := 16, ground := Go.Ground.data }, { on := 9, ground := Go.Ground.guard }], guard := some (9, true) }) rfl (fun K hK => ?_) AllReadyH.nil))
      · skip
        go_simp
        (try dsimp only)
        refine hK.out _ _ trivial (fun _ => ?_)
        clear hK K
        (try simp only [Act.put, List.setIfInBounds_toArray, List.set_cons_succ, List.set_cons_zero])
        refine wpAnyH_ready (rs := [17]) (by kernel_rfl) (by simp) ?_
        refine (AllReadyH.cons (o := { dst := some 28, op := Go.Op.convert 22 9 (Go.Operand.tmp 27), type := 9, pos := "law.go:38", after := #[{ on := 16, ground := Go.Ground.data }, { on := 9, ground := Go.Ground.guard }], guard := some (9, true) }) rfl (fun K hK => ?_) AllReadyH.nil)
        go_simp
        (try dsimp only)
        refine hK.out _ _ trivial (fun _ => ?_)
        clear hK K
        (try simp only [Act.put, List.setIfInBounds_toArray, List.set_cons_succ, List.set_cons_zero])
        refine wpAnyH_take (i := 18) (oi := { dst := some 29, op := Go.Op.binOp Go.BinOp.eql 9 (Go.Operand.tmp 24) (Go.Operand.tmp 28) 9, type := 4, pos := "law.go:38", after := #[{ on := 13, ground := Go.Ground.data }, { on := 17, ground := Go.Ground.data }, { on := 9, ground := Go.Ground.guard }], guard := some (9, true) }) (v := ?vp18) rfl (by kernel_rfl) (by kernel_rfl) (by kernel_rfl) (fun _ _ _ h => h) (Or.inl ⟨by rfl, ?hyp18⟩) trivial ?restp18
        case hyp18 => (intro w hSw; go_simp; (try (with_reducible rfl)))
        (try simp only [Act.put, List.setIfInBounds_toArray, List.set_cons_succ, List.set_cons_zero])
        refine wpAnyH_take (i := 19) (oi := { dst := some 30, op := Go.Op.pick (Go.Operand.tmp 20) (Go.Operand.tmp 29) (Go.Operand.const (Go.Value.bool false)), type := 4, pos := "law.go:38", after := #[{ on := 9, ground := Go.Ground.data }, { on := 18, ground := Go.Ground.data }], guard := none }) (v := ?vp19) rfl (by kernel_rfl) (by kernel_rfl) (by kernel_rfl) (fun _ _ _ h => h) (Or.inl ⟨by rfl, ?hyp19⟩) trivial ?restp19
        case hyp19 => (intro w hSw; go_simp; (try (with_reducible rfl)))
        (try simp only [Act.put, List.setIfInBounds_toArray, List.set_cons_succ, List.set_cons_zero])
        refine wpAnyH_take (i := 20) (oi := { dst := some 31, op := Go.Op.move (Go.Operand.tmp 30), type := 4, pos := "law.go:38", after := #[{ on := 19, ground := Go.Ground.data }, { on := 16, ground := Go.Ground.chain }], guard := none }) (v := ?vp20) rfl (by kernel_rfl) (by kernel_rfl) (by kernel_rfl) (fun _ _ _ h => h) (Or.inl ⟨by rfl, ?hyp20⟩) trivial ?restp20
        case hyp20 => (intro w hSw; go_simp; (try (with_reducible rfl)))
        (try simp only [Act.put, List.setIfInBounds_toArray, List.set_cons_succ, List.set_cons_zero])
        exact REST2 A3 c3 A4 c4 w4 ⟨hr4, b4⟩
      · skip
        go_simp
        (try dsimp only)
        refine hK.out _ _ trivial (fun _ => ?_)
        clear hK K
        (try simp only [Act.put, List.setIfInBounds_toArray, List.set_cons_succ, List.set_cons_zero])
        refine wpAnyH_ready (rs := [13]) (by kernel_rfl) (by simp) ?_
        refine (AllReadyH.cons (o := { dst := some 24, op := Go.Op.convert 22 9 (Go.Operand.tmp 23), type := 9, pos := "law.go:38", after := #[{ on := 12, ground := Go.Ground.data }, { on := 9, ground := Go.Ground.guard }], guard := some (9, true) }) rfl (fun K hK => ?_) AllReadyH.nil)
        go_simp
        (try dsimp only)
        refine hK.out _ _ trivial (fun _ => ?_)
        clear hK K
        (try simp only [Act.put, List.setIfInBounds_toArray, List.set_cons_succ, List.set_cons_zero])
        refine wpAnyH_take (i := 18) (oi := { dst := some 29, op := Go.Op.binOp Go.BinOp.eql 9 (Go.Operand.tmp 24) (Go.Operand.tmp 28) 9, type := 4, pos := "law.go:38", after := #[{ on := 13, ground := Go.Ground.data }, { on := 17, ground := Go.Ground.data }, { on := 9, ground := Go.Ground.guard }], guard := some (9, true) }) (v := ?vp21) rfl (by kernel_rfl) (by kernel_rfl) (by kernel_rfl) (fun _ _ _ h => h) (Or.inl ⟨by rfl, ?hyp21⟩) trivial ?restp21
        case hyp21 => (intro w hSw; go_simp; (try (with_reducible rfl)))
        (try simp only [Act.put, List.setIfInBounds_toArray, List.set_cons_succ, List.set_cons_zero])
        refine wpAnyH_take (i := 19) (oi := { dst := some 30, op := Go.Op.pick (Go.Operand.tmp 20) (Go.Operand.tmp 29) (Go.Operand.const (Go.Value.bool false)), type := 4, pos := "law.go:38", after := #[{ on := 9, ground := Go.Ground.data }, { on := 18, ground := Go.Ground.data }], guard := none }) (v := ?vp22) rfl (by kernel_rfl) (by kernel_rfl) (by kernel_rfl) (fun _ _ _ h => h) (Or.inl ⟨by rfl, ?hyp22⟩) trivial ?restp22
        case hyp22 => (intro w hSw; go_simp; (try (with_reducible rfl)))
        (try simp only [Act.put, List.setIfInBounds_toArray, List.set_cons_succ, List.set_cons_zero])
        refine wpAnyH_take (i := 20) (oi := { dst := some 31, op := Go.Op.move (Go.Operand.tmp 30), type := 4, pos := "law.go:38", after := #[{ on := 19, ground := Go.Ground.data }, { on := 16, ground := Go.Ground.chain }], guard := none }) (v := ?vp23) rfl (by kernel_rfl) (by kernel_rfl) (by kernel_rfl) (fun _ _ _ h => h) (Or.inl ⟨by rfl, ?hyp23⟩) trivial ?restp23
        case hyp23 => (intro w hSw; go_simp; (try (with_reducible rfl)))
        (try simp only [Act.put, List.setIfInBounds_toArray, List.set_cons_succ, List.set_cons_zero])
        exact REST2 A3 c3 A4 c4 w4 ⟨hr4, b4⟩
  rintro A3 c3 A4 c4 w4 ⟨hr4, b4⟩
  clear C3 C4
  refine wpAnyH_take (i := 21) (oi := { dst := some 32, op := Go.Op.move (Go.Operand.tmp 1), type := 23, pos := "law.go:38", after := #[{ on := 20, ground := Go.Ground.guard }], guard := some (20, true) }) (v := ?vp24) rfl (by kernel_rfl) (by kernel_rfl) (by kernel_rfl) (fun _ _ _ h => h) (Or.inl ⟨by rfl, ?hyp24⟩) trivial ?restp24
  case hyp24 => (intro w hSw; go_simp; (try (with_reducible rfl)))
  (try simp only [Act.put, List.setIfInBounds_toArray, List.set_cons_succ, List.set_cons_zero])
  refine wpAnyH_take (i := 23) (oi := { dst := some 34, op := Go.Op.move (Go.Operand.tmp 1), type := 23, pos := "law.go:38", after := #[{ on := 20, ground := Go.Ground.guard }], guard := some (20, true) }) (v := ?vp25) rfl (by kernel_rfl) (by kernel_rfl) (by kernel_rfl) (fun _ _ _ h => h) (Or.inl ⟨by rfl, ?hyp25⟩) trivial ?restp25
  case hyp25 => (intro w hSw; go_simp; (try (with_reducible rfl)))
  (try simp only [Act.put, List.setIfInBounds_toArray, List.set_cons_succ, List.set_cons_zero])
  refine wpAnyH_ready (rs := [22]) (by kernel_rfl) (by simp) ?_
  refine (AllReadyH.cons (o := { dst := some 33, op := Go.Op.call { callee := Go.Callee.value (Go.Operand.func 14), args := #[Go.Operand.tmp 32], argTypes := #[23] }, type := 3, pos := "law.go:38", after := #[{ on := 21, ground := Go.Ground.data }, { on := 20, ground := Go.Ground.chain }, { on := 20, ground := Go.Ground.guard }], guard := some (20, true) }) rfl (fun K hK => ?_) AllReadyH.nil)
  go_simp
  (go_at_call 14; refine (len_any n _ hn).mono ?_; rintro e w5 ⟨rfl, hb5⟩; have b5 := b4.trans (hb5.mono b4.size); have hr5 : RdB w5 w.heap.size A l := hr4.below (hb5.mono b4.size))
  (try dsimp only)
  refine hK.out _ _ trivial (fun _ => ?_)
  clear hK K
  (try simp only [Act.put, List.setIfInBounds_toArray, List.set_cons_succ, List.set_cons_zero])
  refine wpAnyH_ready (rs := [24]) (by kernel_rfl) (by simp) ?_
  refine (AllReadyH.cons (o := { dst := some 35, op := Go.Op.call { callee := Go.Callee.value (Go.Operand.func 15), args := #[Go.Operand.tmp 34], argTypes := #[23] }, type := 3, pos := "law.go:38", after := #[{ on := 23, ground := Go.Ground.data }, { on := 22, ground := Go.Ground.chain }, { on := 20, ground := Go.Ground.guard }], guard := some (20, true) }) rfl (fun K hK => ?_) AllReadyH.nil)
  go_simp
  (go_at_call 15; refine (refLen_any n _ hn).mono ?_; rintro e w6 ⟨rfl, hb6⟩; have b6 := b5.trans (hb6.mono b5.size); have hr6 : RdB w6 w.heap.size A l := hr5.below (hb6.mono b5.size))
  (try dsimp only)
  refine hK.out _ _ trivial (fun _ => ?_)
  clear hK K
  (try simp only [Act.put, List.setIfInBounds_toArray, List.set_cons_succ, List.set_cons_zero])
  refine wpAnyH_take (i := 25) (oi := { dst := some 36, op := Go.Op.binOp Go.BinOp.eql 3 (Go.Operand.tmp 33) (Go.Operand.tmp 35) 3, type := 4, pos := "law.go:38", after := #[{ on := 22, ground := Go.Ground.data }, { on := 24, ground := Go.Ground.data }, { on := 20, ground := Go.Ground.guard }], guard := some (20, true) }) (v := ?vp26) rfl (by kernel_rfl) (by kernel_rfl) (by kernel_rfl) (fun _ _ _ h => h) (Or.inl ⟨by rfl, ?hyp26⟩) trivial ?restp26
  case hyp26 => (intro w hSw; go_simp; (try (with_reducible rfl)))
  (try simp only [Act.put, List.setIfInBounds_toArray, List.set_cons_succ, List.set_cons_zero])
  refine wpAnyH_take (i := 26) (oi := { dst := some 37, op := Go.Op.pick (Go.Operand.tmp 31) (Go.Operand.tmp 36) (Go.Operand.const (Go.Value.bool false)), type := 4, pos := "law.go:38", after := #[{ on := 20, ground := Go.Ground.data }, { on := 25, ground := Go.Ground.data }], guard := none }) (v := ?vp27) rfl (by kernel_rfl) (by kernel_rfl) (by kernel_rfl) (fun _ _ _ h => h) (Or.inl ⟨by rfl, ?hyp27⟩) trivial ?restp27
  case hyp27 => (intro w hSw; go_simp; (try (with_reducible rfl)))
  (try simp only [Act.put, List.setIfInBounds_toArray, List.set_cons_succ, List.set_cons_zero])
  refine wpAnyH_take (i := 27) (oi := { dst := some 38, op := Go.Op.move (Go.Operand.tmp 37), type := 4, pos := "law.go:38", after := #[{ on := 26, ground := Go.Ground.data }, { on := 24, ground := Go.Ground.chain }], guard := none }) (v := ?vp28) rfl (by kernel_rfl) (by kernel_rfl) (by kernel_rfl) (fun _ _ _ h => h) (Or.inl ⟨by rfl, ?hyp28⟩) trivial ?restp28
  case hyp28 => (intro w hSw; go_simp; (try (with_reducible rfl)))
  (try simp only [Act.put, List.setIfInBounds_toArray, List.set_cons_succ, List.set_cons_zero])
  refine wpAnyH_take (i := 28) (oi := { dst := some 39, op := Go.Op.move (Go.Operand.tmp 2), type := 2, pos := "law.go:38", after := #[{ on := 27, ground := Go.Ground.guard }], guard := some (27, true) }) (v := ?vp29) rfl (by kernel_rfl) (by kernel_rfl) (by kernel_rfl) (fun _ _ _ h => h) (Or.inl ⟨by rfl, ?hyp29⟩) trivial ?restp29
  case hyp29 => (intro w hSw; go_simp; (try (with_reducible rfl)))
  (try simp only [Act.put, List.setIfInBounds_toArray, List.set_cons_succ, List.set_cons_zero])
  refine wpAnyH_take (i := 30) (oi := { dst := some 41, op := Go.Op.move (Go.Operand.tmp 2), type := 2, pos := "law.go:38", after := #[{ on := 27, ground := Go.Ground.guard }], guard := some (27, true) }) (v := ?vp30) rfl (by kernel_rfl) (by kernel_rfl) (by kernel_rfl) (fun _ _ _ h => h) (Or.inl ⟨by rfl, ?hyp30⟩) trivial ?restp30
  case hyp30 => (intro w hSw; go_simp; (try (with_reducible rfl)))
  (try simp only [Act.put, List.setIfInBounds_toArray, List.set_cons_succ, List.set_cons_zero])
  refine wpAnyH_ready (rs := [29]) (by kernel_rfl) (by simp) ?_
  refine (AllReadyH.cons (o := { dst := some 40, op := Go.Op.call { callee := Go.Callee.value (Go.Operand.func 16), args := #[Go.Operand.tmp 39], argTypes := #[2] }, type := 3, pos := "law.go:38", after := #[{ on := 28, ground := Go.Ground.data }, { on := 27, ground := Go.Ground.chain }, { on := 27, ground := Go.Ground.guard }], guard := some (27, true) }) rfl (fun K hK => ?_) AllReadyH.nil)
  go_simp
  (go_at_call 16; refine (lenS_any k _ hk).mono ?_; rintro e w7 ⟨rfl, hb7⟩; have b7 := b6.trans (hb7.mono b6.size); have hr7 : RdB w7 w.heap.size A l := hr6.below (hb7.mono b6.size))
  (try dsimp only)
  refine hK.out _ _ trivial (fun _ => ?_)
  clear hK K
  (try simp only [Act.put, List.setIfInBounds_toArray, List.set_cons_succ, List.set_cons_zero])
  refine wpAnyH_ready (rs := [31]) (by kernel_rfl) (by simp) ?_
  refine (AllReadyH.cons (o := { dst := some 42, op := Go.Op.call { callee := Go.Callee.value (Go.Operand.func 17), args := #[Go.Operand.tmp 41], argTypes := #[2] }, type := 3, pos := "law.go:38", after := #[{ on := 30, ground := Go.Ground.data }, { on := 29, ground := Go.Ground.chain }, { on := 27, ground := Go.Ground.guard }], guard := some (27, true) }) rfl (fun K hK => ?_) AllReadyH.nil)
  go_simp
  (go_at_call 17; refine (refLenS_any k _ hk).mono ?_; rintro e w8 ⟨rfl, hb8⟩; have b8 := b7.trans (hb8.mono b7.size); have hr8 : RdB w8 w.heap.size A l := hr7.below (hb8.mono b7.size))
  (try dsimp only)
  refine hK.out _ _ trivial (fun _ => ?_)
  clear hK K
  (try simp only [Act.put, List.setIfInBounds_toArray, List.set_cons_succ, List.set_cons_zero])
  refine wpAnyH_take (i := 32) (oi := { dst := some 43, op := Go.Op.binOp Go.BinOp.eql 3 (Go.Operand.tmp 40) (Go.Operand.tmp 42) 3, type := 4, pos := "law.go:38", after := #[{ on := 29, ground := Go.Ground.data }, { on := 31, ground := Go.Ground.data }, { on := 27, ground := Go.Ground.guard }], guard := some (27, true) }) (v := ?vp31) rfl (by kernel_rfl) (by kernel_rfl) (by kernel_rfl) (fun _ _ _ h => h) (Or.inl ⟨by rfl, ?hyp31⟩) trivial ?restp31
  case hyp31 => (intro w hSw; go_simp; (try (with_reducible rfl)))
  (try simp only [Act.put, List.setIfInBounds_toArray, List.set_cons_succ, List.set_cons_zero])
  refine wpAnyH_take (i := 33) (oi := { dst := some 44, op := Go.Op.pick (Go.Operand.tmp 38) (Go.Operand.tmp 43) (Go.Operand.const (Go.Value.bool false)), type := 4, pos := "law.go:38", after := #[{ on := 27, ground := Go.Ground.data }, { on := 32, ground := Go.Ground.data }], guard := none }) (v := ?vp32) rfl (by kernel_rfl) (by kernel_rfl) (by kernel_rfl) (fun _ _ _ h => h) (Or.inl ⟨by rfl, ?hyp32⟩) trivial ?restp32
  case hyp32 => (intro w hSw; go_simp; (try (with_reducible rfl)))
  (try simp only [Act.put, List.setIfInBounds_toArray, List.set_cons_succ, List.set_cons_zero])
  refine wpAnyH_take (i := 34) (oi := { dst := some 45, op := Go.Op.move (Go.Operand.tmp 44), type := 4, pos := "law.go:38", after := #[{ on := 33, ground := Go.Ground.data }, { on := 31, ground := Go.Ground.chain }], guard := none }) (v := ?vp33) rfl (by kernel_rfl) (by kernel_rfl) (by kernel_rfl) (fun _ _ _ h => h) (Or.inl ⟨by rfl, ?hyp33⟩) trivial ?restp33
  case hyp33 => (intro w hSw; go_simp; (try (with_reducible rfl)))
  (try simp only [Act.put, List.setIfInBounds_toArray, List.set_cons_succ, List.set_cons_zero])
  refine wpAnyH_take (i := 35) (oi := { dst := some 46, op := Go.Op.move (Go.Operand.tmp 0), type := 22, pos := "law.go:38", after := #[{ on := 34, ground := Go.Ground.guard }], guard := some (34, true) }) (v := ?vp34) rfl (by kernel_rfl) (by kernel_rfl) (by kernel_rfl) (fun _ _ _ h => h) (Or.inl ⟨by rfl, ?hyp34⟩) trivial ?restp34
  case hyp34 => (intro w hSw; go_simp; (try (with_reducible rfl)))
  (try simp only [Act.put, List.setIfInBounds_toArray, List.set_cons_succ, List.set_cons_zero])
  refine wpAnyH_take (i := 36) (oi := { dst := some 47, op := Go.Op.move (Go.Operand.tmp 1), type := 23, pos := "law.go:38", after := #[{ on := 34, ground := Go.Ground.guard }], guard := some (34, true) }) (v := ?vp35) rfl (by kernel_rfl) (by kernel_rfl) (by kernel_rfl) (fun _ _ _ h => h) (Or.inl ⟨by rfl, ?hyp35⟩) trivial ?restp35
  case hyp35 => (intro w hSw; go_simp; (try (with_reducible rfl)))
  (try simp only [Act.put, List.setIfInBounds_toArray, List.set_cons_succ, List.set_cons_zero])
  refine wpAnyH_take (i := 37) (oi := { dst := some 48, op := Go.Op.move (Go.Operand.tmp 2), type := 2, pos := "law.go:38", after := #[{ on := 34, ground := Go.Ground.guard }], guard := some (34, true) }) (v := ?vp36) rfl (by kernel_rfl) (by kernel_rfl) (by kernel_rfl) (fun _ _ _ h => h) (Or.inl ⟨by rfl, ?hyp36⟩) trivial ?restp36
  case hyp36 => (intro w hSw; go_simp; (try (with_reducible rfl)))
  (try simp only [Act.put, List.setIfInBounds_toArray, List.set_cons_succ, List.set_cons_zero])
  refine wpAnyH_ready (rs := [38]) (by kernel_rfl) (by simp) ?_
  refine (AllReadyH.cons (o := { dst := some 49, op := Go.Op.call { callee := Go.Callee.value (Go.Operand.func 18), args := #[Go.Operand.tmp 46, Go.Operand.tmp 47, Go.Operand.tmp 48], argTypes := #[22, 23, 2] }, type := 4, pos := "law.go:38", after := #[{ on := 35, ground := Go.Ground.data }, { on := 36, ground := Go.Ground.data }, { on := 37, ground := Go.Ground.data }, { on := 34, ground := Go.Ground.chain }, { on := 34, ground := Go.Ground.guard }], guard := some (34, true) }) rfl (fun K hK => ?_) AllReadyH.nil)
  go_simp
  (go_at_call 18; refine (spare_any A c l n k _ (hr8.more b8.size) hl100 hn hk).mono ?_; rintro e w9 ⟨rfl, hb9⟩; have b9 := b8.trans (hb9.mono b8.size); have hr9 : RdB w9 w.heap.size A l := hr8.below (hb9.mono b8.size))
  (try dsimp only)
  refine hK.out _ _ trivial (fun _ => ?_)
  clear hK K
  (try simp only [Act.put, List.setIfInBounds_toArray, List.set_cons_succ, List.set_cons_zero])
  refine wpAnyH_take (i := 39) (oi := { dst := some 50, op := Go.Op.pick (Go.Operand.tmp 45) (Go.Operand.tmp 49) (Go.Operand.const (Go.Value.bool false)), type := 4, pos := "law.go:38", after := #[{ on := 34, ground := Go.Ground.data }, { on := 38, ground := Go.Ground.data }], guard := none }) (v := ?vp37) rfl (by kernel_rfl) (by kernel_rfl) (by kernel_rfl) (fun _ _ _ h => h) (Or.inl ⟨by rfl, ?hyp37⟩) trivial ?restp37
  case hyp37 => (intro w hSw; go_simp; (try (with_reducible rfl)))
  (try simp only [Act.put, List.setIfInBounds_toArray, List.set_cons_succ, List.set_cons_zero])
  refine wpAnyH_take (i := 40) (oi := { dst := some 51, op := Go.Op.move (Go.Operand.tmp 50), type := 4, pos := "law.go:38", after := #[{ on := 39, ground := Go.Ground.data }, { on := 38, ground := Go.Ground.chain }], guard := none }) (v := ?vp38) rfl (by kernel_rfl) (by kernel_rfl) (by kernel_rfl) (fun _ _ _ h => h) (Or.inl ⟨by rfl, ?hyp38⟩) trivial ?restp38
  case hyp38 => (intro w hSw; go_simp; (try (with_reducible rfl)))
  (try simp only [Act.put, List.setIfInBounds_toArray, List.set_cons_succ, List.set_cons_zero])
  refine wpAnyH_ready (rs := [41]) (by kernel_rfl) (by simp) ?_
  refine (AllReadyH.cons (o := { dst := some 52, op := Go.Op.call { callee := Go.Callee.value (Go.Operand.func 9), args := #[], argTypes := #[] }, type := 4, pos := "law.go:38", after := #[{ on := 40, ground := Go.Ground.chain }, { on := 40, ground := Go.Ground.guard }], guard := some (40, true) }) rfl (fun K hK => ?_) AllReadyH.nil)
  go_simp
  (go_at_call 9; refine (alive_any _).mono ?_; rintro e w10 ⟨rfl, hb10⟩; have b10 := b9.trans (hb10.mono b9.size); have hr10 : RdB w10 w.heap.size A l := hr9.below (hb10.mono b9.size))
  (try dsimp only)
  refine hK.out _ _ trivial (fun _ => ?_)
  clear hK K
  (try simp only [Act.put, List.setIfInBounds_toArray, List.set_cons_succ, List.set_cons_zero])
  refine wpAnyH_take (i := 42) (oi := { dst := some 53, op := Go.Op.pick (Go.Operand.tmp 51) (Go.Operand.tmp 52) (Go.Operand.const (Go.Value.bool false)), type := 4, pos := "law.go:38", after := #[{ on := 40, ground := Go.Ground.data }, { on := 41, ground := Go.Ground.data }], guard := none }) (v := ?vp39) rfl (by kernel_rfl) (by kernel_rfl) (by kernel_rfl) (fun _ _ _ h => h) (Or.inl ⟨by rfl, ?hyp39⟩) trivial ?restp39
  case hyp39 => (intro w hSw; go_simp; (try (with_reducible rfl)))
  (try simp only [Act.put, List.setIfInBounds_toArray, List.set_cons_succ, List.set_cons_zero])
  refine wpAnyH_take (i := 43) (oi := { dst := some 6, op := Go.Op.assign (Go.Operand.tmp 53), type := 4, pos := "law.go:38", after := #[{ on := 42, ground := Go.Ground.data }, { on := 41, ground := Go.Ground.chain }, { on := 0, ground := Go.Ground.phase }, { on := 1, ground := Go.Ground.phase }, { on := 2, ground := Go.Ground.phase }, { on := 3, ground := Go.Ground.phase }, { on := 4, ground := Go.Ground.phase }, { on := 5, ground := Go.Ground.phase }, { on := 6, ground := Go.Ground.phase }, { on := 7, ground := Go.Ground.phase }, { on := 8, ground := Go.Ground.phase }, { on := 9, ground := Go.Ground.phase }, { on := 10, ground := Go.Ground.phase }, { on := 11, ground := Go.Ground.phase }, { on := 12, ground := Go.Ground.phase }, { on := 13, ground := Go.Ground.phase }, { on := 14, ground := Go.Ground.phase }, { on := 15, ground := Go.Ground.phase }, { on := 16, ground := Go.Ground.phase }, { on := 17, ground := Go.Ground.phase }, { on := 18, ground := Go.Ground.phase }, { on := 19, ground := Go.Ground.phase }, { on := 20, ground := Go.Ground.phase }, { on := 21, ground := Go.Ground.phase }, { on := 22, ground := Go.Ground.phase }, { on := 23, ground := Go.Ground.phase }, { on := 24, ground := Go.Ground.phase }, { on := 25, ground := Go.Ground.phase }, { on := 26, ground := Go.Ground.phase }, { on := 27, ground := Go.Ground.phase }, { on := 28, ground := Go.Ground.phase }, { on := 29, ground := Go.Ground.phase }, { on := 30, ground := Go.Ground.phase }, { on := 31, ground := Go.Ground.phase }, { on := 32, ground := Go.Ground.phase }, { on := 33, ground := Go.Ground.phase }, { on := 34, ground := Go.Ground.phase }, { on := 35, ground := Go.Ground.phase }, { on := 36, ground := Go.Ground.phase }, { on := 37, ground := Go.Ground.phase }, { on := 38, ground := Go.Ground.phase }, { on := 39, ground := Go.Ground.phase }, { on := 40, ground := Go.Ground.phase }, { on := 41, ground := Go.Ground.phase }, { on := 42, ground := Go.Ground.phase }], guard := none }) (v := ?vp40) rfl (by kernel_rfl) (by kernel_rfl) (by kernel_rfl) (fun _ _ _ h => h) (Or.inl ⟨by rfl, ?hyp40⟩) trivial ?restp40
  case hyp40 => (intro w hSw; go_simp; (try (with_reducible rfl)))
  (try simp only [Act.put, List.setIfInBounds_toArray, List.set_cons_succ, List.set_cons_zero])
  refine wpAnyH_done (by kernel_rfl) ?_ _
  go_wp2
  go_ret
  exact ⟨rfl, b10⟩
end Go.Proofs.Ytceepkgpdhdhnaa
