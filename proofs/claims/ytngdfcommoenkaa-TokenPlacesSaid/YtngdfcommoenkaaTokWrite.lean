/-
  The contract of the reference's Write: the tokens' texts with the prescribed spaces.
-/
import Derived.Test.YtngdfcommoenkaaTokBackP
import Derived.Test.YtngdfcommoenkaaTokOurs
import Derived.Test.YtngdfcommoenkaaTokSpacesW
import Derived.Deep.RegionHeld3
set_option linter.unusedVariables false
namespace Go.Proofs.Ytngdfcommoenkaa
open Go.RowKit

theorem space_nat (a b : Nat) : spaceF (a : Int) (b : Int) = Tok.spk a b := by
  unfold spaceF Tok.spk
  have h : ∀ (x n : Nat), ((x : Int) != (n : Int)) = (x != n) := by
    intro x n
    by_cases hx : x = n
    · subst hx; simp
    · have hx' : ¬ (x : Int) = (n : Int) := by omega
      have e1 : ((x : Int) == (n : Int)) = false := by simpa using hx'
      have e2 : (x == n) = false := by simpa using hx
      rw [bne, bne, e1, e2]
  have := h a 0
  have := h b 1
  have := h a 4
  have := h b 4
  simp_all
theorem wgo_take (L : List Tok.Tk) (k : Nat) (h : k < L.length) : Tok.wgo none (L.take (k + 1)) = Tok.wgo none (L.take k) ++ (Tok.sp (Tok.lastK none (L.take k)) L[k].kind ++ Tok.ttext L[k]) := by
  rw [List.take_succ_eq_append_getElem h, Tok.wgo_snoc]
theorem lastK_take (L : List Tok.Tk) (m : Nat) (h : m < L.length) : Tok.lastK none (L.take (m + 1)) = some L[m].kind := by
  rw [List.take_succ_eq_append_getElem h, Tok.lastK_snoc]
theorem wgo_le (L : List Tok.Tk) : ∀ j k : Nat, (Tok.wgo none (L.take k)).length ≤ (Tok.wgo none (L.take (k + j))).length := by
  intro j
  induction j with
  | zero => intro k; exact Nat.le_refl _
  | succ j ih =>
    intro k
    refine Nat.le_trans (ih k) ?_
    by_cases h : k + j < L.length
    · rw [show k + (j + 1) = k + j + 1 from rfl, wgo_take L (k + j) h]; simp
    · rw [List.take_of_length_le (by omega), List.take_of_length_le (by omega)]; exact Nat.le_refl _
theorem wgo_all (L : List Tok.Tk) (k : Nat) : (Tok.wgo none (L.take k)).length ≤ (Tok.wgo none L).length := by
  have := wgo_le L L.length k
  rwa [List.take_of_length_le (l := L) (i := k + L.length) (by omega)] at this
theorem kne {a : Int} {n : Nat} (k : Nat) (h : a = (k : Int)) (hn : k ≠ n) : (a == (n : Int)) = false := by
  subst h
  simpa using (by omega : ¬ (k : Int) = (n : Int))

set_option maxHeartbeats 2000000 in
set_option maxRecDepth 100000 in
theorem write_any (base : Nat) (A : Option Addr) (c : Nat) (L : List Tok.Tk) (w : World) (h : w.ownsRow base 43 3 (.slice A L.length c) L.length (toks L)) (hL : L.length ≤ 100000) (hlen : (Tok.wgo none L).length ≤ 10000) :
    Calls Try.prog 13 #[.slice A L.length c] w fun e w' => e = .returned (.string ⟨(Tok.wgo none L).toArray⟩) ∧ Below w.heap.size w w' := by
  go_enter Try.func13, Try.ntmps13
  go_wp2
  go_loopw [3, 4] (fun s i wr => ∃ k : Nat, k ≤ L.length ∧ i = .int .i64 k ∧ s = .string ⟨(Tok.wgo none (L.take k)).toArray⟩ ∧ Below w.heap.size w wr) (fun _ i _ => L.length - (intOf i).toNat)
  case atStart => exact ⟨0, by omega, rfl, rfl, Below.refl _ _⟩
  case round =>
    obtain ⟨k, hk, rfl, rfl, hb⟩ := hrel
    have hP := wgo_all L k
    by_cases hkl : k < L.length
    · obtain ⟨g, rfl, _, hg, c0, c1, c2⟩ := own_tok h k hkl
      have hsz := hb.size
      have d0 := (hb.cell (p := ⟨g, k * 3, none⟩) hg).trans c0
      have d1 := (hb.cell (p := ⟨g, k * 3 + 1, none⟩) hg).trans c1
      have d2 := (hb.cell (p := ⟨g, k * 3 + 2, none⟩) hg).trans c2
      have hg' : g < wr.heap.size := by omega
      have hk0 : (0 : Int) ≤ (k : Int) := Int.natCast_nonneg _
      have hk1 : (k : Int) < (L.length : Int) := by omega
      have hN := wgo_take L k hkl
      have hP1 := wgo_all L (k + 1)
      rw [hN] at hP1
      have hsp : (k = 0 ∧ Tok.sp (Tok.lastK none (L.take k)) L[k].kind = []) ∨ ∃ (m : Nat) (hm : m < L.length), k = m + 1 ∧ Tok.sp (Tok.lastK none (L.take k)) L[k].kind = if Tok.spk L[m].kind L[k].kind then [32] else [] := by
        match k, hkl with
        | 0, _ => exact .inl ⟨rfl, rfl⟩
        | m + 1, hkl => exact .inr ⟨m, by omega, rfl, by rw [lastK_take L m (by omega)]; rfl⟩
      have htt : (L[k].kind = 0 ∧ Tok.ttext L[k] = [40]) ∨ (L[k].kind = 1 ∧ Tok.ttext L[k] = [41]) ∨ (L[k].kind = 3 ∧ Tok.ttext L[k] = 34 :: (L[k].text ++ [34])) ∨ (L[k].kind ≠ 0 ∧ L[k].kind ≠ 1 ∧ L[k].kind ≠ 3 ∧ Tok.ttext L[k] = L[k].text) := by
        by_cases k0 : L[k].kind = 0
        · exact .inl ⟨k0, by simp [Tok.ttext, k0]⟩
        by_cases k1 : L[k].kind = 1
        · exact .inr (.inl ⟨k1, by simp [Tok.ttext, k1]⟩)
        by_cases k3 : L[k].kind = 3
        · exact .inr (.inr (.inl ⟨k3, by simp [Tok.ttext, k3]⟩))
        exact .inr (.inr (.inr ⟨k0, k1, k3, by simp [Tok.ttext, k0, k1, k3]⟩))
      generalize Tok.wgo none (L.take k) = P at hN hP hP1 ⊢
      generalize Tok.sp (Tok.lastK none (L.take k)) L[k].kind = Sp at hN hP1 hsp
      generalize Tok.ttext L[k] = TT at hN hP1 htt
      simp only [List.length_append] at hP1
      have hPl : P.length ≤ 10000 := by omega
      have hTl : Sp.length + TT.length ≤ 10000 := by omega
      clear hP hP1 c0 c1 c2
      generalize hkd : L[k].kind = kd at hsp htt d0
      generalize hps : (L[k].pos : Int) = ps at d1
      generalize htx : L[k].text = tx at htt d2
      generalize hki : (kd : Int) = ki at d0
      have HN := Lib.hid hN
      clear hN
      rcases hsp with ⟨hz, hSp⟩ | ⟨m, hm, hkm, hSp⟩
      · have HS := Lib.hid hSp
        have gz : decide (0 < k) = false := by simp; omega
        clear hSp hz
        rcases htt with ⟨h0, hT⟩ | ⟨h0, hT⟩ | ⟨h0, hT⟩ | ⟨h0, h1, h3, hT⟩
        · have HTT := Lib.hid hT
          have hki' : ki = 0 := by omega
          subst hki'
          clear hki h0 hT hTl
          go_wp2_with fail
          refine wp_region_held_drew (S := fun _ => True) (by kernel_rfl) ?_ (fun hHeld0 => ?_)
          · first | assumption | go_keep
          refine wpAnyH_take (i := 0) (oi := { dst := some 12, op := Go.Op.move (Go.Operand.tmp 4), type := 3, pos := "ref.go:165", after := #[], guard := none }) (v := ?v_1_0) rfl (by kernel_rfl) (by kernel_rfl) (by kernel_rfl) (fun _ _ _ h => h) (Or.inl ⟨by rfl, ?hy_1_0⟩) (by assumption) ?rest_1_0
          case hy_1_0 => (intro w hSw; (try dsimp only at hSw); go_simp; (try (with_reducible rfl)))
          (try simp only [Act.put, List.setIfInBounds_toArray, List.set_cons_succ, List.set_cons_zero])
          refine wpAnyH_take (i := 1) (oi := { dst := some 13, op := Go.Op.binOp Go.BinOp.gtr 3 (Go.Operand.tmp 12) (Go.Operand.const (Go.Value.int Go.IntKind.i64 0)) 3, type := 4, pos := "ref.go:165", after := #[{ on := 0, ground := Go.Ground.data }], guard := none }) (v := ?v_1_1) rfl (by kernel_rfl) (by kernel_rfl) (by kernel_rfl) (fun _ _ _ h => h) (Or.inl ⟨by rfl, ?hy_1_1⟩) (by assumption) ?rest_1_1
          case hy_1_1 => (intro w hSw; (try dsimp only at hSw); go_simp; (try (with_reducible rfl)))
          (try simp only [Act.put, List.setIfInBounds_toArray, List.set_cons_succ, List.set_cons_zero])
          refine wpAnyH_take (i := 2) (oi := { dst := some 14, op := Go.Op.move (Go.Operand.tmp 13), type := 4, pos := "ref.go:165", after := #[{ on := 1, ground := Go.Ground.data }], guard := none }) (v := ?v_1_2) rfl (by kernel_rfl) (by kernel_rfl) (by kernel_rfl) (fun _ _ _ h => h) (Or.inl ⟨by rfl, ?hy_1_2⟩) (by assumption) ?rest_1_2
          case hy_1_2 => (intro w hSw; (try dsimp only at hSw); go_simp; (try (with_reducible rfl)))
          (try simp only [Act.put, List.setIfInBounds_toArray, List.set_cons_succ, List.set_cons_zero])
          refine wpAnyH_take (i := 3) (oi := { dst := some 15, op := Go.Op.move (Go.Operand.tmp 0), type := 27, pos := "ref.go:165", after := #[{ on := 2, ground := Go.Ground.guard }], guard := some (2, true) }) (v := undef) rfl (by kernel_rfl) (by kernel_rfl) (by kernel_rfl) (fun _ _ _ h => h) (Or.inr ⟨by rfl, rfl⟩) (by assumption) ?rest_1_3
          (try simp only [Act.put, List.setIfInBounds_toArray, List.set_cons_succ, List.set_cons_zero])
          refine wpAnyH_take (i := 4) (oi := { dst := some 16, op := Go.Op.move (Go.Operand.tmp 4), type := 3, pos := "ref.go:165", after := #[{ on := 2, ground := Go.Ground.guard }], guard := some (2, true) }) (v := undef) rfl (by kernel_rfl) (by kernel_rfl) (by kernel_rfl) (fun _ _ _ h => h) (Or.inr ⟨by rfl, rfl⟩) (by assumption) ?rest_1_4
          (try simp only [Act.put, List.setIfInBounds_toArray, List.set_cons_succ, List.set_cons_zero])
          refine wpAnyH_take (i := 5) (oi := { dst := some 17, op := Go.Op.binOp Go.BinOp.sub 3 (Go.Operand.tmp 16) (Go.Operand.const (Go.Value.int Go.IntKind.i64 1)) 3, type := 3, pos := "ref.go:165", after := #[{ on := 4, ground := Go.Ground.data }, { on := 2, ground := Go.Ground.guard }], guard := some (2, true) }) (v := undef) rfl (by kernel_rfl) (by kernel_rfl) (by kernel_rfl) (fun _ _ _ h => h) (Or.inr ⟨by rfl, rfl⟩) (by assumption) ?rest_1_5
          (try simp only [Act.put, List.setIfInBounds_toArray, List.set_cons_succ, List.set_cons_zero])
          refine wpAnyH_take (i := 6) (oi := { dst := some 18, op := Go.Op.indexAddr 27 (Go.Operand.tmp 15) (Go.Operand.tmp 17), type := 0, pos := "ref.go:165", after := #[{ on := 3, ground := Go.Ground.data }, { on := 5, ground := Go.Ground.data }, { on := 2, ground := Go.Ground.guard }], guard := some (2, true) }) (v := undef) rfl (by kernel_rfl) (by kernel_rfl) (by kernel_rfl) (fun _ _ _ h => h) (Or.inr ⟨by rfl, rfl⟩) (by assumption) ?rest_1_6
          (try simp only [Act.put, List.setIfInBounds_toArray, List.set_cons_succ, List.set_cons_zero])
          refine wpAnyH_take (i := 7) (oi := { dst := some 19, op := Go.Op.load 43 (Go.Operand.tmp 18), type := 43, pos := "ref.go:165", after := #[{ on := 6, ground := Go.Ground.data }, { on := 2, ground := Go.Ground.guard }], guard := some (2, true) }) (v := undef) rfl (by kernel_rfl) (by kernel_rfl) (by kernel_rfl) (fun _ _ _ h => h) (Or.inr ⟨by rfl, rfl⟩) (by assumption) ?rest_1_7
          (try simp only [Act.put, List.setIfInBounds_toArray, List.set_cons_succ, List.set_cons_zero])
          refine wpAnyH_take (i := 8) (oi := { dst := some 20, op := Go.Op.move (Go.Operand.tmp 0), type := 27, pos := "ref.go:165", after := #[{ on := 2, ground := Go.Ground.guard }], guard := some (2, true) }) (v := undef) rfl (by kernel_rfl) (by kernel_rfl) (by kernel_rfl) (fun _ _ _ h => h) (Or.inr ⟨by rfl, rfl⟩) (by assumption) ?rest_1_8
          (try simp only [Act.put, List.setIfInBounds_toArray, List.set_cons_succ, List.set_cons_zero])
          refine wpAnyH_take (i := 9) (oi := { dst := some 21, op := Go.Op.move (Go.Operand.tmp 4), type := 3, pos := "ref.go:165", after := #[{ on := 2, ground := Go.Ground.guard }], guard := some (2, true) }) (v := undef) rfl (by kernel_rfl) (by kernel_rfl) (by kernel_rfl) (fun _ _ _ h => h) (Or.inr ⟨by rfl, rfl⟩) (by assumption) ?rest_1_9
          (try simp only [Act.put, List.setIfInBounds_toArray, List.set_cons_succ, List.set_cons_zero])
          refine wpAnyH_take (i := 10) (oi := { dst := some 22, op := Go.Op.indexAddr 27 (Go.Operand.tmp 20) (Go.Operand.tmp 21), type := 0, pos := "ref.go:165", after := #[{ on := 8, ground := Go.Ground.data }, { on := 9, ground := Go.Ground.data }, { on := 2, ground := Go.Ground.guard }], guard := some (2, true) }) (v := undef) rfl (by kernel_rfl) (by kernel_rfl) (by kernel_rfl) (fun _ _ _ h => h) (Or.inr ⟨by rfl, rfl⟩) (by assumption) ?rest_1_10
          (try simp only [Act.put, List.setIfInBounds_toArray, List.set_cons_succ, List.set_cons_zero])
          refine wpAnyH_take (i := 11) (oi := { dst := some 23, op := Go.Op.load 43 (Go.Operand.tmp 22), type := 43, pos := "ref.go:165", after := #[{ on := 10, ground := Go.Ground.data }, { on := 2, ground := Go.Ground.guard }], guard := some (2, true) }) (v := undef) rfl (by kernel_rfl) (by kernel_rfl) (by kernel_rfl) (fun _ _ _ h => h) (Or.inr ⟨by rfl, rfl⟩) (by assumption) ?rest_1_11
          (try simp only [Act.put, List.setIfInBounds_toArray, List.set_cons_succ, List.set_cons_zero])
          refine wpAnyH_take (i := 12) (oi := { dst := some 24, op := Go.Op.call { callee := Go.Callee.value (Go.Operand.func 16), args := #[Go.Operand.tmp 19, Go.Operand.tmp 23], argTypes := #[43, 43] }, type := 4, pos := "ref.go:165", after := #[{ on := 7, ground := Go.Ground.data }, { on := 11, ground := Go.Ground.data }, { on := 2, ground := Go.Ground.chain }, { on := 2, ground := Go.Ground.guard }], guard := some (2, true) }) (v := undef) rfl (by kernel_rfl) (by kernel_rfl) (by kernel_rfl) (fun _ _ _ h => h) (Or.inr ⟨by rfl, rfl⟩) (by assumption) ?rest_1_12
          (try simp only [Act.put, List.setIfInBounds_toArray, List.set_cons_succ, List.set_cons_zero])
          refine wpAnyH_take (i := 13) (oi := { dst := some 25, op := Go.Op.pick (Go.Operand.tmp 14) (Go.Operand.tmp 24) (Go.Operand.const (Go.Value.bool false)), type := 4, pos := "ref.go:165", after := #[{ on := 2, ground := Go.Ground.data }, { on := 12, ground := Go.Ground.data }], guard := none }) (v := ?v_1_13) rfl (by kernel_rfl) (by kernel_rfl) (by kernel_rfl) (fun _ _ _ h => h) (Or.inl ⟨by rfl, ?hy_1_13⟩) (by assumption) ?rest_1_13
          case hy_1_13 => (intro w hSw; (try dsimp only at hSw); go_simp; (try (with_reducible rfl)))
          (try simp only [Act.put, List.setIfInBounds_toArray, List.set_cons_succ, List.set_cons_zero])
          refine wpAnyH_done (by kernel_rfl) ?_ _
          go_wp2_with fail
          go_roundw
          case rel => exact ⟨k + 1, by omega, by go_num, by rw [HN.out, HS.out, HTT.out]; exact congrArg Value.string (by apply ByteArray.ext; simp), hb.drew⟩
          case measure => simp [intOf]; omega
        · have HTT := Lib.hid hT
          have hki' : ki = 1 := by omega
          subst hki'
          clear hki h0 hT hTl
          go_wp2_with fail
          refine wp_region_held_drew (S := fun _ => True) (by kernel_rfl) ?_ (fun hHeld0 => ?_)
          · first | assumption | go_keep
          refine wpAnyH_take (i := 0) (oi := { dst := some 12, op := Go.Op.move (Go.Operand.tmp 4), type := 3, pos := "ref.go:165", after := #[], guard := none }) (v := ?v_2_0) rfl (by kernel_rfl) (by kernel_rfl) (by kernel_rfl) (fun _ _ _ h => h) (Or.inl ⟨by rfl, ?hy_2_0⟩) (by assumption) ?rest_2_0
          case hy_2_0 => (intro w hSw; (try dsimp only at hSw); go_simp; (try (with_reducible rfl)))
          (try simp only [Act.put, List.setIfInBounds_toArray, List.set_cons_succ, List.set_cons_zero])
          refine wpAnyH_take (i := 1) (oi := { dst := some 13, op := Go.Op.binOp Go.BinOp.gtr 3 (Go.Operand.tmp 12) (Go.Operand.const (Go.Value.int Go.IntKind.i64 0)) 3, type := 4, pos := "ref.go:165", after := #[{ on := 0, ground := Go.Ground.data }], guard := none }) (v := ?v_2_1) rfl (by kernel_rfl) (by kernel_rfl) (by kernel_rfl) (fun _ _ _ h => h) (Or.inl ⟨by rfl, ?hy_2_1⟩) (by assumption) ?rest_2_1
          case hy_2_1 => (intro w hSw; (try dsimp only at hSw); go_simp; (try (with_reducible rfl)))
          (try simp only [Act.put, List.setIfInBounds_toArray, List.set_cons_succ, List.set_cons_zero])
          refine wpAnyH_take (i := 2) (oi := { dst := some 14, op := Go.Op.move (Go.Operand.tmp 13), type := 4, pos := "ref.go:165", after := #[{ on := 1, ground := Go.Ground.data }], guard := none }) (v := ?v_2_2) rfl (by kernel_rfl) (by kernel_rfl) (by kernel_rfl) (fun _ _ _ h => h) (Or.inl ⟨by rfl, ?hy_2_2⟩) (by assumption) ?rest_2_2
          case hy_2_2 => (intro w hSw; (try dsimp only at hSw); go_simp; (try (with_reducible rfl)))
          (try simp only [Act.put, List.setIfInBounds_toArray, List.set_cons_succ, List.set_cons_zero])
          refine wpAnyH_take (i := 3) (oi := { dst := some 15, op := Go.Op.move (Go.Operand.tmp 0), type := 27, pos := "ref.go:165", after := #[{ on := 2, ground := Go.Ground.guard }], guard := some (2, true) }) (v := undef) rfl (by kernel_rfl) (by kernel_rfl) (by kernel_rfl) (fun _ _ _ h => h) (Or.inr ⟨by rfl, rfl⟩) (by assumption) ?rest_2_3
          (try simp only [Act.put, List.setIfInBounds_toArray, List.set_cons_succ, List.set_cons_zero])
          refine wpAnyH_take (i := 4) (oi := { dst := some 16, op := Go.Op.move (Go.Operand.tmp 4), type := 3, pos := "ref.go:165", after := #[{ on := 2, ground := Go.Ground.guard }], guard := some (2, true) }) (v := undef) rfl (by kernel_rfl) (by kernel_rfl) (by kernel_rfl) (fun _ _ _ h => h) (Or.inr ⟨by rfl, rfl⟩) (by assumption) ?rest_2_4
          (try simp only [Act.put, List.setIfInBounds_toArray, List.set_cons_succ, List.set_cons_zero])
          refine wpAnyH_take (i := 5) (oi := { dst := some 17, op := Go.Op.binOp Go.BinOp.sub 3 (Go.Operand.tmp 16) (Go.Operand.const (Go.Value.int Go.IntKind.i64 1)) 3, type := 3, pos := "ref.go:165", after := #[{ on := 4, ground := Go.Ground.data }, { on := 2, ground := Go.Ground.guard }], guard := some (2, true) }) (v := undef) rfl (by kernel_rfl) (by kernel_rfl) (by kernel_rfl) (fun _ _ _ h => h) (Or.inr ⟨by rfl, rfl⟩) (by assumption) ?rest_2_5
          (try simp only [Act.put, List.setIfInBounds_toArray, List.set_cons_succ, List.set_cons_zero])
          refine wpAnyH_take (i := 6) (oi := { dst := some 18, op := Go.Op.indexAddr 27 (Go.Operand.tmp 15) (Go.Operand.tmp 17), type := 0, pos := "ref.go:165", after := #[{ on := 3, ground := Go.Ground.data }, { on := 5, ground := Go.Ground.data }, { on := 2, ground := Go.Ground.guard }], guard := some (2, true) }) (v := undef) rfl (by kernel_rfl) (by kernel_rfl) (by kernel_rfl) (fun _ _ _ h => h) (Or.inr ⟨by rfl, rfl⟩) (by assumption) ?rest_2_6
          (try simp only [Act.put, List.setIfInBounds_toArray, List.set_cons_succ, List.set_cons_zero])
          refine wpAnyH_take (i := 7) (oi := { dst := some 19, op := Go.Op.load 43 (Go.Operand.tmp 18), type := 43, pos := "ref.go:165", after := #[{ on := 6, ground := Go.Ground.data }, { on := 2, ground := Go.Ground.guard }], guard := some (2, true) }) (v := undef) rfl (by kernel_rfl) (by kernel_rfl) (by kernel_rfl) (fun _ _ _ h => h) (Or.inr ⟨by rfl, rfl⟩) (by assumption) ?rest_2_7
          (try simp only [Act.put, List.setIfInBounds_toArray, List.set_cons_succ, List.set_cons_zero])
          refine wpAnyH_take (i := 8) (oi := { dst := some 20, op := Go.Op.move (Go.Operand.tmp 0), type := 27, pos := "ref.go:165", after := #[{ on := 2, ground := Go.Ground.guard }], guard := some (2, true) }) (v := undef) rfl (by kernel_rfl) (by kernel_rfl) (by kernel_rfl) (fun _ _ _ h => h) (Or.inr ⟨by rfl, rfl⟩) (by assumption) ?rest_2_8
          (try simp only [Act.put, List.setIfInBounds_toArray, List.set_cons_succ, List.set_cons_zero])
          refine wpAnyH_take (i := 9) (oi := { dst := some 21, op := Go.Op.move (Go.Operand.tmp 4), type := 3, pos := "ref.go:165", after := #[{ on := 2, ground := Go.Ground.guard }], guard := some (2, true) }) (v := undef) rfl (by kernel_rfl) (by kernel_rfl) (by kernel_rfl) (fun _ _ _ h => h) (Or.inr ⟨by rfl, rfl⟩) (by assumption) ?rest_2_9
          (try simp only [Act.put, List.setIfInBounds_toArray, List.set_cons_succ, List.set_cons_zero])
          refine wpAnyH_take (i := 10) (oi := { dst := some 22, op := Go.Op.indexAddr 27 (Go.Operand.tmp 20) (Go.Operand.tmp 21), type := 0, pos := "ref.go:165", after := #[{ on := 8, ground := Go.Ground.data }, { on := 9, ground := Go.Ground.data }, { on := 2, ground := Go.Ground.guard }], guard := some (2, true) }) (v := undef) rfl (by kernel_rfl) (by kernel_rfl) (by kernel_rfl) (fun _ _ _ h => h) (Or.inr ⟨by rfl, rfl⟩) (by assumption) ?rest_2_10
          (try simp only [Act.put, List.setIfInBounds_toArray, List.set_cons_succ, List.set_cons_zero])
          refine wpAnyH_take (i := 11) (oi := { dst := some 23, op := Go.Op.load 43 (Go.Operand.tmp 22), type := 43, pos := "ref.go:165", after := #[{ on := 10, ground := Go.Ground.data }, { on := 2, ground := Go.Ground.guard }], guard := some (2, true) }) (v := undef) rfl (by kernel_rfl) (by kernel_rfl) (by kernel_rfl) (fun _ _ _ h => h) (Or.inr ⟨by rfl, rfl⟩) (by assumption) ?rest_2_11
          (try simp only [Act.put, List.setIfInBounds_toArray, List.set_cons_succ, List.set_cons_zero])
          refine wpAnyH_take (i := 12) (oi := { dst := some 24, op := Go.Op.call { callee := Go.Callee.value (Go.Operand.func 16), args := #[Go.Operand.tmp 19, Go.Operand.tmp 23], argTypes := #[43, 43] }, type := 4, pos := "ref.go:165", after := #[{ on := 7, ground := Go.Ground.data }, { on := 11, ground := Go.Ground.data }, { on := 2, ground := Go.Ground.chain }, { on := 2, ground := Go.Ground.guard }], guard := some (2, true) }) (v := undef) rfl (by kernel_rfl) (by kernel_rfl) (by kernel_rfl) (fun _ _ _ h => h) (Or.inr ⟨by rfl, rfl⟩) (by assumption) ?rest_2_12
          (try simp only [Act.put, List.setIfInBounds_toArray, List.set_cons_succ, List.set_cons_zero])
          refine wpAnyH_take (i := 13) (oi := { dst := some 25, op := Go.Op.pick (Go.Operand.tmp 14) (Go.Operand.tmp 24) (Go.Operand.const (Go.Value.bool false)), type := 4, pos := "ref.go:165", after := #[{ on := 2, ground := Go.Ground.data }, { on := 12, ground := Go.Ground.data }], guard := none }) (v := ?v_2_13) rfl (by kernel_rfl) (by kernel_rfl) (by kernel_rfl) (fun _ _ _ h => h) (Or.inl ⟨by rfl, ?hy_2_13⟩) (by assumption) ?rest_2_13
          case hy_2_13 => (intro w hSw; (try dsimp only at hSw); go_simp; (try (with_reducible rfl)))
          (try simp only [Act.put, List.setIfInBounds_toArray, List.set_cons_succ, List.set_cons_zero])
          refine wpAnyH_done (by kernel_rfl) ?_ _
          go_wp2_with fail
          go_roundw
          case rel => exact ⟨k + 1, by omega, by go_num, by rw [HN.out, HS.out, HTT.out]; exact congrArg Value.string (by apply ByteArray.ext; simp), hb.drew⟩
          case measure => simp [intOf]; omega
        · have HTT := Lib.hid hT
          have hki' : ki = 3 := by omega
          subst hki'
          have htl : tx.length ≤ 10000 := by rw [hT] at hTl; simp at hTl; omega
          clear hki h0 hT hTl
          go_wp2_with fail
          refine wp_region_held_drew (S := fun _ => True) (by kernel_rfl) ?_ (fun hHeld0 => ?_)
          · first | assumption | go_keep
          refine wpAnyH_take (i := 0) (oi := { dst := some 12, op := Go.Op.move (Go.Operand.tmp 4), type := 3, pos := "ref.go:165", after := #[], guard := none }) (v := ?v_3_0) rfl (by kernel_rfl) (by kernel_rfl) (by kernel_rfl) (fun _ _ _ h => h) (Or.inl ⟨by rfl, ?hy_3_0⟩) (by assumption) ?rest_3_0
          case hy_3_0 => (intro w hSw; (try dsimp only at hSw); go_simp; (try (with_reducible rfl)))
          (try simp only [Act.put, List.setIfInBounds_toArray, List.set_cons_succ, List.set_cons_zero])
          refine wpAnyH_take (i := 1) (oi := { dst := some 13, op := Go.Op.binOp Go.BinOp.gtr 3 (Go.Operand.tmp 12) (Go.Operand.const (Go.Value.int Go.IntKind.i64 0)) 3, type := 4, pos := "ref.go:165", after := #[{ on := 0, ground := Go.Ground.data }], guard := none }) (v := ?v_3_1) rfl (by kernel_rfl) (by kernel_rfl) (by kernel_rfl) (fun _ _ _ h => h) (Or.inl ⟨by rfl, ?hy_3_1⟩) (by assumption) ?rest_3_1
          case hy_3_1 => (intro w hSw; (try dsimp only at hSw); go_simp; (try (with_reducible rfl)))
          (try simp only [Act.put, List.setIfInBounds_toArray, List.set_cons_succ, List.set_cons_zero])
          refine wpAnyH_take (i := 2) (oi := { dst := some 14, op := Go.Op.move (Go.Operand.tmp 13), type := 4, pos := "ref.go:165", after := #[{ on := 1, ground := Go.Ground.data }], guard := none }) (v := ?v_3_2) rfl (by kernel_rfl) (by kernel_rfl) (by kernel_rfl) (fun _ _ _ h => h) (Or.inl ⟨by rfl, ?hy_3_2⟩) (by assumption) ?rest_3_2
          case hy_3_2 => (intro w hSw; (try dsimp only at hSw); go_simp; (try (with_reducible rfl)))
          (try simp only [Act.put, List.setIfInBounds_toArray, List.set_cons_succ, List.set_cons_zero])
          refine wpAnyH_take (i := 3) (oi := { dst := some 15, op := Go.Op.move (Go.Operand.tmp 0), type := 27, pos := "ref.go:165", after := #[{ on := 2, ground := Go.Ground.guard }], guard := some (2, true) }) (v := undef) rfl (by kernel_rfl) (by kernel_rfl) (by kernel_rfl) (fun _ _ _ h => h) (Or.inr ⟨by rfl, rfl⟩) (by assumption) ?rest_3_3
          (try simp only [Act.put, List.setIfInBounds_toArray, List.set_cons_succ, List.set_cons_zero])
          refine wpAnyH_take (i := 4) (oi := { dst := some 16, op := Go.Op.move (Go.Operand.tmp 4), type := 3, pos := "ref.go:165", after := #[{ on := 2, ground := Go.Ground.guard }], guard := some (2, true) }) (v := undef) rfl (by kernel_rfl) (by kernel_rfl) (by kernel_rfl) (fun _ _ _ h => h) (Or.inr ⟨by rfl, rfl⟩) (by assumption) ?rest_3_4
          (try simp only [Act.put, List.setIfInBounds_toArray, List.set_cons_succ, List.set_cons_zero])
          refine wpAnyH_take (i := 5) (oi := { dst := some 17, op := Go.Op.binOp Go.BinOp.sub 3 (Go.Operand.tmp 16) (Go.Operand.const (Go.Value.int Go.IntKind.i64 1)) 3, type := 3, pos := "ref.go:165", after := #[{ on := 4, ground := Go.Ground.data }, { on := 2, ground := Go.Ground.guard }], guard := some (2, true) }) (v := undef) rfl (by kernel_rfl) (by kernel_rfl) (by kernel_rfl) (fun _ _ _ h => h) (Or.inr ⟨by rfl, rfl⟩) (by assumption) ?rest_3_5
          (try simp only [Act.put, List.setIfInBounds_toArray, List.set_cons_succ, List.set_cons_zero])
          refine wpAnyH_take (i := 6) (oi := { dst := some 18, op := Go.Op.indexAddr 27 (Go.Operand.tmp 15) (Go.Operand.tmp 17), type := 0, pos := "ref.go:165", after := #[{ on := 3, ground := Go.Ground.data }, { on := 5, ground := Go.Ground.data }, { on := 2, ground := Go.Ground.guard }], guard := some (2, true) }) (v := undef) rfl (by kernel_rfl) (by kernel_rfl) (by kernel_rfl) (fun _ _ _ h => h) (Or.inr ⟨by rfl, rfl⟩) (by assumption) ?rest_3_6
          (try simp only [Act.put, List.setIfInBounds_toArray, List.set_cons_succ, List.set_cons_zero])
          refine wpAnyH_take (i := 7) (oi := { dst := some 19, op := Go.Op.load 43 (Go.Operand.tmp 18), type := 43, pos := "ref.go:165", after := #[{ on := 6, ground := Go.Ground.data }, { on := 2, ground := Go.Ground.guard }], guard := some (2, true) }) (v := undef) rfl (by kernel_rfl) (by kernel_rfl) (by kernel_rfl) (fun _ _ _ h => h) (Or.inr ⟨by rfl, rfl⟩) (by assumption) ?rest_3_7
          (try simp only [Act.put, List.setIfInBounds_toArray, List.set_cons_succ, List.set_cons_zero])
          refine wpAnyH_take (i := 8) (oi := { dst := some 20, op := Go.Op.move (Go.Operand.tmp 0), type := 27, pos := "ref.go:165", after := #[{ on := 2, ground := Go.Ground.guard }], guard := some (2, true) }) (v := undef) rfl (by kernel_rfl) (by kernel_rfl) (by kernel_rfl) (fun _ _ _ h => h) (Or.inr ⟨by rfl, rfl⟩) (by assumption) ?rest_3_8
          (try simp only [Act.put, List.setIfInBounds_toArray, List.set_cons_succ, List.set_cons_zero])
          refine wpAnyH_take (i := 9) (oi := { dst := some 21, op := Go.Op.move (Go.Operand.tmp 4), type := 3, pos := "ref.go:165", after := #[{ on := 2, ground := Go.Ground.guard }], guard := some (2, true) }) (v := undef) rfl (by kernel_rfl) (by kernel_rfl) (by kernel_rfl) (fun _ _ _ h => h) (Or.inr ⟨by rfl, rfl⟩) (by assumption) ?rest_3_9
          (try simp only [Act.put, List.setIfInBounds_toArray, List.set_cons_succ, List.set_cons_zero])
          refine wpAnyH_take (i := 10) (oi := { dst := some 22, op := Go.Op.indexAddr 27 (Go.Operand.tmp 20) (Go.Operand.tmp 21), type := 0, pos := "ref.go:165", after := #[{ on := 8, ground := Go.Ground.data }, { on := 9, ground := Go.Ground.data }, { on := 2, ground := Go.Ground.guard }], guard := some (2, true) }) (v := undef) rfl (by kernel_rfl) (by kernel_rfl) (by kernel_rfl) (fun _ _ _ h => h) (Or.inr ⟨by rfl, rfl⟩) (by assumption) ?rest_3_10
          (try simp only [Act.put, List.setIfInBounds_toArray, List.set_cons_succ, List.set_cons_zero])
          refine wpAnyH_take (i := 11) (oi := { dst := some 23, op := Go.Op.load 43 (Go.Operand.tmp 22), type := 43, pos := "ref.go:165", after := #[{ on := 10, ground := Go.Ground.data }, { on := 2, ground := Go.Ground.guard }], guard := some (2, true) }) (v := undef) rfl (by kernel_rfl) (by kernel_rfl) (by kernel_rfl) (fun _ _ _ h => h) (Or.inr ⟨by rfl, rfl⟩) (by assumption) ?rest_3_11
          (try simp only [Act.put, List.setIfInBounds_toArray, List.set_cons_succ, List.set_cons_zero])
          refine wpAnyH_take (i := 12) (oi := { dst := some 24, op := Go.Op.call { callee := Go.Callee.value (Go.Operand.func 16), args := #[Go.Operand.tmp 19, Go.Operand.tmp 23], argTypes := #[43, 43] }, type := 4, pos := "ref.go:165", after := #[{ on := 7, ground := Go.Ground.data }, { on := 11, ground := Go.Ground.data }, { on := 2, ground := Go.Ground.chain }, { on := 2, ground := Go.Ground.guard }], guard := some (2, true) }) (v := undef) rfl (by kernel_rfl) (by kernel_rfl) (by kernel_rfl) (fun _ _ _ h => h) (Or.inr ⟨by rfl, rfl⟩) (by assumption) ?rest_3_12
          (try simp only [Act.put, List.setIfInBounds_toArray, List.set_cons_succ, List.set_cons_zero])
          refine wpAnyH_take (i := 13) (oi := { dst := some 25, op := Go.Op.pick (Go.Operand.tmp 14) (Go.Operand.tmp 24) (Go.Operand.const (Go.Value.bool false)), type := 4, pos := "ref.go:165", after := #[{ on := 2, ground := Go.Ground.data }, { on := 12, ground := Go.Ground.data }], guard := none }) (v := ?v_3_13) rfl (by kernel_rfl) (by kernel_rfl) (by kernel_rfl) (fun _ _ _ h => h) (Or.inl ⟨by rfl, ?hy_3_13⟩) (by assumption) ?rest_3_13
          case hy_3_13 => (intro w hSw; (try dsimp only at hSw); go_simp; (try (with_reducible rfl)))
          (try simp only [Act.put, List.setIfInBounds_toArray, List.set_cons_succ, List.set_cons_zero])
          refine wpAnyH_done (by kernel_rfl) ?_ _
          go_wp2_with fail
          go_roundw
          case rel => exact ⟨k + 1, by omega, by go_num, by rw [HN.out, HS.out, HTT.out]; exact congrArg Value.string (by apply ByteArray.ext; simp), hb.drew⟩
          case measure => simp [intOf]; omega
        · have HTT := Lib.hid hT
          have g0 : (ki == 0) = false := by simpa using (by omega : ¬ ki = 0)
          have g1 : (ki == 1) = false := by simpa using (by omega : ¬ ki = 1)
          have g3 : (ki == 3) = false := by simpa using (by omega : ¬ ki = 3)
          have htl : tx.length ≤ 10000 := by rw [hT] at hTl; omega
          clear hki h0 hT hTl h1 h3
          go_wp2_with fail
          refine wp_region_held_drew (S := fun _ => True) (by kernel_rfl) ?_ (fun hHeld0 => ?_)
          · first | assumption | go_keep
          refine wpAnyH_take (i := 0) (oi := { dst := some 12, op := Go.Op.move (Go.Operand.tmp 4), type := 3, pos := "ref.go:165", after := #[], guard := none }) (v := ?v_4_0) rfl (by kernel_rfl) (by kernel_rfl) (by kernel_rfl) (fun _ _ _ h => h) (Or.inl ⟨by rfl, ?hy_4_0⟩) (by assumption) ?rest_4_0
          case hy_4_0 => (intro w hSw; (try dsimp only at hSw); go_simp; (try (with_reducible rfl)))
          (try simp only [Act.put, List.setIfInBounds_toArray, List.set_cons_succ, List.set_cons_zero])
          refine wpAnyH_take (i := 1) (oi := { dst := some 13, op := Go.Op.binOp Go.BinOp.gtr 3 (Go.Operand.tmp 12) (Go.Operand.const (Go.Value.int Go.IntKind.i64 0)) 3, type := 4, pos := "ref.go:165", after := #[{ on := 0, ground := Go.Ground.data }], guard := none }) (v := ?v_4_1) rfl (by kernel_rfl) (by kernel_rfl) (by kernel_rfl) (fun _ _ _ h => h) (Or.inl ⟨by rfl, ?hy_4_1⟩) (by assumption) ?rest_4_1
          case hy_4_1 => (intro w hSw; (try dsimp only at hSw); go_simp; (try (with_reducible rfl)))
          (try simp only [Act.put, List.setIfInBounds_toArray, List.set_cons_succ, List.set_cons_zero])
          refine wpAnyH_take (i := 2) (oi := { dst := some 14, op := Go.Op.move (Go.Operand.tmp 13), type := 4, pos := "ref.go:165", after := #[{ on := 1, ground := Go.Ground.data }], guard := none }) (v := ?v_4_2) rfl (by kernel_rfl) (by kernel_rfl) (by kernel_rfl) (fun _ _ _ h => h) (Or.inl ⟨by rfl, ?hy_4_2⟩) (by assumption) ?rest_4_2
          case hy_4_2 => (intro w hSw; (try dsimp only at hSw); go_simp; (try (with_reducible rfl)))
          (try simp only [Act.put, List.setIfInBounds_toArray, List.set_cons_succ, List.set_cons_zero])
          refine wpAnyH_take (i := 3) (oi := { dst := some 15, op := Go.Op.move (Go.Operand.tmp 0), type := 27, pos := "ref.go:165", after := #[{ on := 2, ground := Go.Ground.guard }], guard := some (2, true) }) (v := undef) rfl (by kernel_rfl) (by kernel_rfl) (by kernel_rfl) (fun _ _ _ h => h) (Or.inr ⟨by rfl, rfl⟩) (by assumption) ?rest_4_3
          (try simp only [Act.put, List.setIfInBounds_toArray, List.set_cons_succ, List.set_cons_zero])
          refine wpAnyH_take (i := 4) (oi := { dst := some 16, op := Go.Op.move (Go.Operand.tmp 4), type := 3, pos := "ref.go:165", after := #[{ on := 2, ground := Go.Ground.guard }], guard := some (2, true) }) (v := undef) rfl (by kernel_rfl) (by kernel_rfl) (by kernel_rfl) (fun _ _ _ h => h) (Or.inr ⟨by rfl, rfl⟩) (by assumption) ?rest_4_4
          (try simp only [Act.put, List.setIfInBounds_toArray, List.set_cons_succ, List.set_cons_zero])
          refine wpAnyH_take (i := 5) (oi := { dst := some 17, op := Go.Op.binOp Go.BinOp.sub 3 (Go.Operand.tmp 16) (Go.Operand.const (Go.Value.int Go.IntKind.i64 1)) 3, type := 3, pos := "ref.go:165", after := #[{ on := 4, ground := Go.Ground.data }, { on := 2, ground := Go.Ground.guard }], guard := some (2, true) }) (v := undef) rfl (by kernel_rfl) (by kernel_rfl) (by kernel_rfl) (fun _ _ _ h => h) (Or.inr ⟨by rfl, rfl⟩) (by assumption) ?rest_4_5
          (try simp only [Act.put, List.setIfInBounds_toArray, List.set_cons_succ, List.set_cons_zero])
          refine wpAnyH_take (i := 6) (oi := { dst := some 18, op := Go.Op.indexAddr 27 (Go.Operand.tmp 15) (Go.Operand.tmp 17), type := 0, pos := "ref.go:165", after := #[{ on := 3, ground := Go.Ground.data }, { on := 5, ground := Go.Ground.data }, { on := 2, ground := Go.Ground.guard }], guard := some (2, true) }) (v := undef) rfl (by kernel_rfl) (by kernel_rfl) (by kernel_rfl) (fun _ _ _ h => h) (Or.inr ⟨by rfl, rfl⟩) (by assumption) ?rest_4_6
          (try simp only [Act.put, List.setIfInBounds_toArray, List.set_cons_succ, List.set_cons_zero])
          refine wpAnyH_take (i := 7) (oi := { dst := some 19, op := Go.Op.load 43 (Go.Operand.tmp 18), type := 43, pos := "ref.go:165", after := #[{ on := 6, ground := Go.Ground.data }, { on := 2, ground := Go.Ground.guard }], guard := some (2, true) }) (v := undef) rfl (by kernel_rfl) (by kernel_rfl) (by kernel_rfl) (fun _ _ _ h => h) (Or.inr ⟨by rfl, rfl⟩) (by assumption) ?rest_4_7
          (try simp only [Act.put, List.setIfInBounds_toArray, List.set_cons_succ, List.set_cons_zero])
          refine wpAnyH_take (i := 8) (oi := { dst := some 20, op := Go.Op.move (Go.Operand.tmp 0), type := 27, pos := "ref.go:165", after := #[{ on := 2, ground := Go.Ground.guard }], guard := some (2, true) }) (v := undef) rfl (by kernel_rfl) (by kernel_rfl) (by kernel_rfl) (fun _ _ _ h => h) (Or.inr ⟨by rfl, rfl⟩) (by assumption) ?rest_4_8
          (try simp only [Act.put, List.setIfInBounds_toArray, List.set_cons_succ, List.set_cons_zero])
          refine wpAnyH_take (i := 9) (oi := { dst := some 21, op := Go.Op.move (Go.Operand.tmp 4), type := 3, pos := "ref.go:165", after := #[{ on := 2, ground := Go.Ground.guard }], guard := some (2, true) }) (v := undef) rfl (by kernel_rfl) (by kernel_rfl) (by kernel_rfl) (fun _ _ _ h => h) (Or.inr ⟨by rfl, rfl⟩) (by assumption) ?rest_4_9
          (try simp only [Act.put, List.setIfInBounds_toArray, List.set_cons_succ, List.set_cons_zero])
          refine wpAnyH_take (i := 10) (oi := { dst := some 22, op := Go.Op.indexAddr 27 (Go.Operand.tmp 20) (Go.Operand.tmp 21), type := 0, pos := "ref.go:165", after := #[{ on := 8, ground := Go.Ground.data }, { on := 9, ground := Go.Ground.data }, { on := 2, ground := Go.Ground.guard }], guard := some (2, true) }) (v := undef) rfl (by kernel_rfl) (by kernel_rfl) (by kernel_rfl) (fun _ _ _ h => h) (Or.inr ⟨by rfl, rfl⟩) (by assumption) ?rest_4_10
          (try simp only [Act.put, List.setIfInBounds_toArray, List.set_cons_succ, List.set_cons_zero])
          refine wpAnyH_take (i := 11) (oi := { dst := some 23, op := Go.Op.load 43 (Go.Operand.tmp 22), type := 43, pos := "ref.go:165", after := #[{ on := 10, ground := Go.Ground.data }, { on := 2, ground := Go.Ground.guard }], guard := some (2, true) }) (v := undef) rfl (by kernel_rfl) (by kernel_rfl) (by kernel_rfl) (fun _ _ _ h => h) (Or.inr ⟨by rfl, rfl⟩) (by assumption) ?rest_4_11
          (try simp only [Act.put, List.setIfInBounds_toArray, List.set_cons_succ, List.set_cons_zero])
          refine wpAnyH_take (i := 12) (oi := { dst := some 24, op := Go.Op.call { callee := Go.Callee.value (Go.Operand.func 16), args := #[Go.Operand.tmp 19, Go.Operand.tmp 23], argTypes := #[43, 43] }, type := 4, pos := "ref.go:165", after := #[{ on := 7, ground := Go.Ground.data }, { on := 11, ground := Go.Ground.data }, { on := 2, ground := Go.Ground.chain }, { on := 2, ground := Go.Ground.guard }], guard := some (2, true) }) (v := undef) rfl (by kernel_rfl) (by kernel_rfl) (by kernel_rfl) (fun _ _ _ h => h) (Or.inr ⟨by rfl, rfl⟩) (by assumption) ?rest_4_12
          (try simp only [Act.put, List.setIfInBounds_toArray, List.set_cons_succ, List.set_cons_zero])
          refine wpAnyH_take (i := 13) (oi := { dst := some 25, op := Go.Op.pick (Go.Operand.tmp 14) (Go.Operand.tmp 24) (Go.Operand.const (Go.Value.bool false)), type := 4, pos := "ref.go:165", after := #[{ on := 2, ground := Go.Ground.data }, { on := 12, ground := Go.Ground.data }], guard := none }) (v := ?v_4_13) rfl (by kernel_rfl) (by kernel_rfl) (by kernel_rfl) (fun _ _ _ h => h) (Or.inl ⟨by rfl, ?hy_4_13⟩) (by assumption) ?rest_4_13
          case hy_4_13 => (intro w hSw; (try dsimp only at hSw); go_simp; (try (with_reducible rfl)))
          (try simp only [Act.put, List.setIfInBounds_toArray, List.set_cons_succ, List.set_cons_zero])
          refine wpAnyH_done (by kernel_rfl) ?_ _
          go_wp2_with fail
          go_roundw
          case rel => exact ⟨k + 1, by omega, by go_num, by rw [HN.out, HS.out, HTT.out]; exact congrArg Value.string (by apply ByteArray.ext; simp), hb.drew⟩
          case measure => simp [intOf]; omega
      · obtain ⟨g2, hg2, _, _, c0, c1, c2⟩ := own_tok h m hm
        injection hg2 with hg2
        injection hg2 with hg2
        subst hg2
        have e0 := (hb.cell (p := ⟨g, m * 3, none⟩) hg).trans c0
        have e1 := (hb.cell (p := ⟨g, m * 3 + 1, none⟩) hg).trans c1
        have e2 := (hb.cell (p := ⟨g, m * 3 + 2, none⟩) hg).trans c2
        have gz : decide (0 < k) = true := by simp; omega
        have hw1 : IntKind.i64.wrap ((k : Int) - 1) = (m : Int) := by rw [IntKind.wrap_i64]; omega
        have hm0 : (0 : Int) ≤ (m : Int) := Int.natCast_nonneg _
        have hm1 : (m : Int) < (L.length : Int) := by omega
        have hspace := space_nat L[m].kind kd
        generalize hkd2 : L[m].kind = kd2 at hSp e0 hspace
        generalize hps2 : (L[m].pos : Int) = ps2 at e1
        generalize htx2 : (⟨L[m].text.toArray⟩ : ByteArray) = tx2 at e2
        generalize hki2 : (kd2 : Int) = ki2 at e0 hspace
        have HM := Lib.hid hkm
        clear c0 c1 c2 hkm
        rw [hki] at hspace
        rcases hbl : Tok.spk kd2 kd with _ | _
        · rw [hbl] at hspace hSp
          have HS : Hid (Sp = []) := Lib.hid (by simpa using hSp)
          clear hSp hbl
          rcases htt with ⟨h0, hT⟩ | ⟨h0, hT⟩ | ⟨h0, hT⟩ | ⟨h0, h1, h3, hT⟩
          · have HTT := Lib.hid hT
            have hki' : ki = 0 := by omega
            subst hki'
            clear hki h0 hT hTl
            have C1 : Hid (∀ W : World, Calls Try.prog 16 #[.agg #[.int .i64 ki2, .int .i64 ps2, .string tx2], .agg #[.int .i64 0, .int .i64 ps, .string ⟨tx.toArray⟩]] W fun e w' => e = .returned (.bool false) ∧ Below W.heap.size W w') := fun W => by have := refSpace_any ki2 0 ps2 ps tx2 ⟨tx.toArray⟩ W; rw [hspace] at this; exact this
            clear hspace
            go_wp2_with fail
            refine wp_region_held_drew (S := fun w' => w'.cell? ⟨g, k * 3, none⟩ = some (.int .i64 0) ∧ w'.cell? ⟨g, k * 3 + 1, none⟩ = some (.int .i64 ps) ∧ w'.cell? ⟨g, k * 3 + 2, none⟩ = some (.string ⟨tx.toArray⟩) ∧ w'.cell? ⟨g, m * 3, none⟩ = some (.int .i64 ki2) ∧ w'.cell? ⟨g, m * 3 + 1, none⟩ = some (.int .i64 ps2) ∧ w'.cell? ⟨g, m * 3 + 2, none⟩ = some (.string tx2)) (by kernel_rfl) ?_ (fun hHeld0 => ?_)
            · first | assumption | go_keep
            refine wpAnyH_take (i := 0) (oi := { dst := some 12, op := Go.Op.move (Go.Operand.tmp 4), type := 3, pos := "ref.go:165", after := #[], guard := none }) (v := ?v_5_0) rfl (by kernel_rfl) (by kernel_rfl) (by kernel_rfl) (fun _ _ _ h => h) (Or.inl ⟨by rfl, ?hy_5_0⟩) (by assumption) ?rest_5_0
            case hy_5_0 => (intro w hSw; (try dsimp only at hSw); go_simp; (try (with_reducible rfl)))
            (try simp only [Act.put, List.setIfInBounds_toArray, List.set_cons_succ, List.set_cons_zero])
            refine wpAnyH_take (i := 1) (oi := { dst := some 13, op := Go.Op.binOp Go.BinOp.gtr 3 (Go.Operand.tmp 12) (Go.Operand.const (Go.Value.int Go.IntKind.i64 0)) 3, type := 4, pos := "ref.go:165", after := #[{ on := 0, ground := Go.Ground.data }], guard := none }) (v := ?v_5_1) rfl (by kernel_rfl) (by kernel_rfl) (by kernel_rfl) (fun _ _ _ h => h) (Or.inl ⟨by rfl, ?hy_5_1⟩) (by assumption) ?rest_5_1
            case hy_5_1 => (intro w hSw; (try dsimp only at hSw); go_simp; (try (with_reducible rfl)))
            (try simp only [Act.put, List.setIfInBounds_toArray, List.set_cons_succ, List.set_cons_zero])
            refine wpAnyH_take (i := 2) (oi := { dst := some 14, op := Go.Op.move (Go.Operand.tmp 13), type := 4, pos := "ref.go:165", after := #[{ on := 1, ground := Go.Ground.data }], guard := none }) (v := ?v_5_2) rfl (by kernel_rfl) (by kernel_rfl) (by kernel_rfl) (fun _ _ _ h => h) (Or.inl ⟨by rfl, ?hy_5_2⟩) (by assumption) ?rest_5_2
            case hy_5_2 => (intro w hSw; (try dsimp only at hSw); go_simp; (try (with_reducible rfl)))
            (try simp only [Act.put, List.setIfInBounds_toArray, List.set_cons_succ, List.set_cons_zero])
            refine wpAnyH_take (i := 3) (oi := { dst := some 15, op := Go.Op.move (Go.Operand.tmp 0), type := 27, pos := "ref.go:165", after := #[{ on := 2, ground := Go.Ground.guard }], guard := some (2, true) }) (v := ?v_5_3) rfl (by kernel_rfl) (by kernel_rfl) (by kernel_rfl) (fun _ _ _ h => h) (Or.inl ⟨by rfl, ?hy_5_3⟩) (by assumption) ?rest_5_3
            case hy_5_3 => (intro w hSw; (try dsimp only at hSw); go_simp; (try (with_reducible rfl)))
            (try simp only [Act.put, List.setIfInBounds_toArray, List.set_cons_succ, List.set_cons_zero])
            refine wpAnyH_take (i := 4) (oi := { dst := some 16, op := Go.Op.move (Go.Operand.tmp 4), type := 3, pos := "ref.go:165", after := #[{ on := 2, ground := Go.Ground.guard }], guard := some (2, true) }) (v := ?v_5_4) rfl (by kernel_rfl) (by kernel_rfl) (by kernel_rfl) (fun _ _ _ h => h) (Or.inl ⟨by rfl, ?hy_5_4⟩) (by assumption) ?rest_5_4
            case hy_5_4 => (intro w hSw; (try dsimp only at hSw); go_simp; (try (with_reducible rfl)))
            (try simp only [Act.put, List.setIfInBounds_toArray, List.set_cons_succ, List.set_cons_zero])
            refine wpAnyH_take (i := 5) (oi := { dst := some 17, op := Go.Op.binOp Go.BinOp.sub 3 (Go.Operand.tmp 16) (Go.Operand.const (Go.Value.int Go.IntKind.i64 1)) 3, type := 3, pos := "ref.go:165", after := #[{ on := 4, ground := Go.Ground.data }, { on := 2, ground := Go.Ground.guard }], guard := some (2, true) }) (v := ?v_5_5) rfl (by kernel_rfl) (by kernel_rfl) (by kernel_rfl) (fun _ _ _ h => h) (Or.inl ⟨by rfl, ?hy_5_5⟩) (by assumption) ?rest_5_5
            case hy_5_5 => (intro w hSw; (try dsimp only at hSw); go_simp; (try (with_reducible rfl)))
            (try simp only [Act.put, List.setIfInBounds_toArray, List.set_cons_succ, List.set_cons_zero])
            refine wpAnyH_take (i := 6) (oi := { dst := some 18, op := Go.Op.indexAddr 27 (Go.Operand.tmp 15) (Go.Operand.tmp 17), type := 0, pos := "ref.go:165", after := #[{ on := 3, ground := Go.Ground.data }, { on := 5, ground := Go.Ground.data }, { on := 2, ground := Go.Ground.guard }], guard := some (2, true) }) (v := ?v_5_6) rfl (by kernel_rfl) (by kernel_rfl) (by kernel_rfl) (fun _ _ _ h => h) (Or.inl ⟨by rfl, ?hy_5_6⟩) (by assumption) ?rest_5_6
            case hy_5_6 => (intro w hSw; (try dsimp only at hSw); go_simp; (try (with_reducible rfl)))
            (try simp only [Act.put, List.setIfInBounds_toArray, List.set_cons_succ, List.set_cons_zero])
            refine wpAnyH_take (i := 7) (oi := { dst := some 19, op := Go.Op.load 43 (Go.Operand.tmp 18), type := 43, pos := "ref.go:165", after := #[{ on := 6, ground := Go.Ground.data }, { on := 2, ground := Go.Ground.guard }], guard := some (2, true) }) (v := ?v_5_7) rfl (by kernel_rfl) (by kernel_rfl) (by kernel_rfl) (fun _ _ _ h => h) (Or.inl ⟨by rfl, ?hy_5_7⟩) (by assumption) ?rest_5_7
            case hy_5_7 => (intro w hSw; (try dsimp only at hSw); go_simp; (try (with_reducible rfl)))
            (try simp only [Act.put, List.setIfInBounds_toArray, List.set_cons_succ, List.set_cons_zero])
            refine wpAnyH_take (i := 8) (oi := { dst := some 20, op := Go.Op.move (Go.Operand.tmp 0), type := 27, pos := "ref.go:165", after := #[{ on := 2, ground := Go.Ground.guard }], guard := some (2, true) }) (v := ?v_5_8) rfl (by kernel_rfl) (by kernel_rfl) (by kernel_rfl) (fun _ _ _ h => h) (Or.inl ⟨by rfl, ?hy_5_8⟩) (by assumption) ?rest_5_8
            case hy_5_8 => (intro w hSw; (try dsimp only at hSw); go_simp; (try (with_reducible rfl)))
            (try simp only [Act.put, List.setIfInBounds_toArray, List.set_cons_succ, List.set_cons_zero])
            refine wpAnyH_take (i := 9) (oi := { dst := some 21, op := Go.Op.move (Go.Operand.tmp 4), type := 3, pos := "ref.go:165", after := #[{ on := 2, ground := Go.Ground.guard }], guard := some (2, true) }) (v := ?v_5_9) rfl (by kernel_rfl) (by kernel_rfl) (by kernel_rfl) (fun _ _ _ h => h) (Or.inl ⟨by rfl, ?hy_5_9⟩) (by assumption) ?rest_5_9
            case hy_5_9 => (intro w hSw; (try dsimp only at hSw); go_simp; (try (with_reducible rfl)))
            (try simp only [Act.put, List.setIfInBounds_toArray, List.set_cons_succ, List.set_cons_zero])
            refine wpAnyH_take (i := 10) (oi := { dst := some 22, op := Go.Op.indexAddr 27 (Go.Operand.tmp 20) (Go.Operand.tmp 21), type := 0, pos := "ref.go:165", after := #[{ on := 8, ground := Go.Ground.data }, { on := 9, ground := Go.Ground.data }, { on := 2, ground := Go.Ground.guard }], guard := some (2, true) }) (v := ?v_5_10) rfl (by kernel_rfl) (by kernel_rfl) (by kernel_rfl) (fun _ _ _ h => h) (Or.inl ⟨by rfl, ?hy_5_10⟩) (by assumption) ?rest_5_10
            case hy_5_10 => (intro w hSw; (try dsimp only at hSw); go_simp; (try (with_reducible rfl)))
            (try simp only [Act.put, List.setIfInBounds_toArray, List.set_cons_succ, List.set_cons_zero])
            refine wpAnyH_take (i := 11) (oi := { dst := some 23, op := Go.Op.load 43 (Go.Operand.tmp 22), type := 43, pos := "ref.go:165", after := #[{ on := 10, ground := Go.Ground.data }, { on := 2, ground := Go.Ground.guard }], guard := some (2, true) }) (v := ?v_5_11) rfl (by kernel_rfl) (by kernel_rfl) (by kernel_rfl) (fun _ _ _ h => h) (Or.inl ⟨by rfl, ?hy_5_11⟩) (by assumption) ?rest_5_11
            case hy_5_11 => (intro w hSw; (try dsimp only at hSw); go_simp; (try (with_reducible rfl)))
            (try simp only [Act.put, List.setIfInBounds_toArray, List.set_cons_succ, List.set_cons_zero])
            refine wpAnyH_ready (rs := [12]) (by kernel_rfl) (by simp) ?_
            refine AllReadyH.cons (o := { dst := some 24, op := Go.Op.call { callee := Go.Callee.value (Go.Operand.func 16), args := #[Go.Operand.tmp 19, Go.Operand.tmp 23], argTypes := #[43, 43] }, type := 4, pos := "ref.go:165", after := #[{ on := 7, ground := Go.Ground.data }, { on := 11, ground := Go.Ground.data }, { on := 2, ground := Go.Ground.chain }, { on := 2, ground := Go.Ground.guard }], guard := some (2, true) }) rfl (fun K hK => ?_) AllReadyH.nil
            go_simp
            (go_at_call 16; (with_reducible refine (C1.out _).mono ?_); rintro e w1 ⟨rfl, hb1⟩; replace d0 := (hb1.cell (p := ⟨g, k * 3, none⟩) (by show g < wr.heap.size; omega)).trans d0; replace d1 := (hb1.cell (p := ⟨g, k * 3 + 1, none⟩) (by show g < wr.heap.size; omega)).trans d1; replace d2 := (hb1.cell (p := ⟨g, k * 3 + 2, none⟩) (by show g < wr.heap.size; omega)).trans d2; replace e0 := (hb1.cell (p := ⟨g, m * 3, none⟩) (by show g < wr.heap.size; omega)).trans e0; replace e1 := (hb1.cell (p := ⟨g, m * 3 + 1, none⟩) (by show g < wr.heap.size; omega)).trans e1; replace e2 := (hb1.cell (p := ⟨g, m * 3 + 2, none⟩) (by show g < wr.heap.size; omega)).trans e2; clear C1)
            (try dsimp only)
            refine hK.out _ _ ?_ (fun hHeld1 => ?_)
            · (try dsimp only); first | assumption | go_keep
            clear hK K hHeld0
            (try simp only [Act.put, List.setIfInBounds_toArray, List.set_cons_succ, List.set_cons_zero])
            refine wpAnyH_take (i := 13) (oi := { dst := some 25, op := Go.Op.pick (Go.Operand.tmp 14) (Go.Operand.tmp 24) (Go.Operand.const (Go.Value.bool false)), type := 4, pos := "ref.go:165", after := #[{ on := 2, ground := Go.Ground.data }, { on := 12, ground := Go.Ground.data }], guard := none }) (v := ?v_5_13) rfl (by kernel_rfl) (by kernel_rfl) (by kernel_rfl) (fun _ _ _ h => h) (Or.inl ⟨by rfl, ?hy_5_13⟩) (by assumption) ?rest_5_13
            case hy_5_13 => (intro w hSw; (try dsimp only at hSw); go_simp; (try (with_reducible rfl)))
            (try simp only [Act.put, List.setIfInBounds_toArray, List.set_cons_succ, List.set_cons_zero])
            refine wpAnyH_done (by kernel_rfl) ?_ _
            go_wp2_with fail
            go_roundw
            case rel => exact ⟨k + 1, by omega, by go_num, by rw [HN.out, HS.out, HTT.out]; exact congrArg Value.string (by apply ByteArray.ext; simp), (hb.drew).trans (hb1.mono hb.size)⟩
            case measure => simp [intOf]; omega
          · have HTT := Lib.hid hT
            have hki' : ki = 1 := by omega
            subst hki'
            clear hki h0 hT hTl
            have C1 : Hid (∀ W : World, Calls Try.prog 16 #[.agg #[.int .i64 ki2, .int .i64 ps2, .string tx2], .agg #[.int .i64 1, .int .i64 ps, .string ⟨tx.toArray⟩]] W fun e w' => e = .returned (.bool false) ∧ Below W.heap.size W w') := fun W => by have := refSpace_any ki2 1 ps2 ps tx2 ⟨tx.toArray⟩ W; rw [hspace] at this; exact this
            clear hspace
            go_wp2_with fail
            refine wp_region_held_drew (S := fun w' => w'.cell? ⟨g, k * 3, none⟩ = some (.int .i64 1) ∧ w'.cell? ⟨g, k * 3 + 1, none⟩ = some (.int .i64 ps) ∧ w'.cell? ⟨g, k * 3 + 2, none⟩ = some (.string ⟨tx.toArray⟩) ∧ w'.cell? ⟨g, m * 3, none⟩ = some (.int .i64 ki2) ∧ w'.cell? ⟨g, m * 3 + 1, none⟩ = some (.int .i64 ps2) ∧ w'.cell? ⟨g, m * 3 + 2, none⟩ = some (.string tx2)) (by kernel_rfl) ?_ (fun hHeld0 => ?_)
            · first | assumption | go_keep
            refine wpAnyH_take (i := 0) (oi := { dst := some 12, op := Go.Op.move (Go.Operand.tmp 4), type := 3, pos := "ref.go:165", after := #[], guard := none }) (v := ?v_6_0) rfl (by kernel_rfl) (by kernel_rfl) (by kernel_rfl) (fun _ _ _ h => h) (Or.inl ⟨by rfl, ?hy_6_0⟩) (by assumption) ?rest_6_0
            case hy_6_0 => (intro w hSw; (try dsimp only at hSw); go_simp; (try (with_reducible rfl)))
            (try simp only [Act.put, List.setIfInBounds_toArray, List.set_cons_succ, List.set_cons_zero])
            refine wpAnyH_take (i := 1) (oi := { dst := some 13, op := Go.Op.binOp Go.BinOp.gtr 3 (Go.Operand.tmp 12) (Go.Operand.const (Go.Value.int Go.IntKind.i64 0)) 3, type := 4, pos := "ref.go:165", after := #[{ on := 0, ground := Go.Ground.data }], guard := none }) (v := ?v_6_1) rfl (by kernel_rfl) (by kernel_rfl) (by kernel_rfl) (fun _ _ _ h => h) (Or.inl ⟨by rfl, ?hy_6_1⟩) (by assumption) ?rest_6_1
            case hy_6_1 => (intro w hSw; (try dsimp only at hSw); go_simp; (try (with_reducible rfl)))
            (try simp only [Act.put, List.setIfInBounds_toArray, List.set_cons_succ, List.set_cons_zero])
            refine wpAnyH_take (i := 2) (oi := { dst := some 14, op := Go.Op.move (Go.Operand.tmp 13), type := 4, pos := "ref.go:165", after := #[{ on := 1, ground := Go.Ground.data }], guard := none }) (v := ?v_6_2) rfl (by kernel_rfl) (by kernel_rfl) (by kernel_rfl) (fun _ _ _ h => h) (Or.inl ⟨by rfl, ?hy_6_2⟩) (by assumption) ?rest_6_2
            case hy_6_2 => (intro w hSw; (try dsimp only at hSw); go_simp; (try (with_reducible rfl)))
            (try simp only [Act.put, List.setIfInBounds_toArray, List.set_cons_succ, List.set_cons_zero])
            refine wpAnyH_take (i := 3) (oi := { dst := some 15, op := Go.Op.move (Go.Operand.tmp 0), type := 27, pos := "ref.go:165", after := #[{ on := 2, ground := Go.Ground.guard }], guard := some (2, true) }) (v := ?v_6_3) rfl (by kernel_rfl) (by kernel_rfl) (by kernel_rfl) (fun _ _ _ h => h) (Or.inl ⟨by rfl, ?hy_6_3⟩) (by assumption) ?rest_6_3
            case hy_6_3 => (intro w hSw; (try dsimp only at hSw); go_simp; (try (with_reducible rfl)))
            (try simp only [Act.put, List.setIfInBounds_toArray, List.set_cons_succ, List.set_cons_zero])
            refine wpAnyH_take (i := 4) (oi := { dst := some 16, op := Go.Op.move (Go.Operand.tmp 4), type := 3, pos := "ref.go:165", after := #[{ on := 2, ground := Go.Ground.guard }], guard := some (2, true) }) (v := ?v_6_4) rfl (by kernel_rfl) (by kernel_rfl) (by kernel_rfl) (fun _ _ _ h => h) (Or.inl ⟨by rfl, ?hy_6_4⟩) (by assumption) ?rest_6_4
            case hy_6_4 => (intro w hSw; (try dsimp only at hSw); go_simp; (try (with_reducible rfl)))
            (try simp only [Act.put, List.setIfInBounds_toArray, List.set_cons_succ, List.set_cons_zero])
            refine wpAnyH_take (i := 5) (oi := { dst := some 17, op := Go.Op.binOp Go.BinOp.sub 3 (Go.Operand.tmp 16) (Go.Operand.const (Go.Value.int Go.IntKind.i64 1)) 3, type := 3, pos := "ref.go:165", after := #[{ on := 4, ground := Go.Ground.data }, { on := 2, ground := Go.Ground.guard }], guard := some (2, true) }) (v := ?v_6_5) rfl (by kernel_rfl) (by kernel_rfl) (by kernel_rfl) (fun _ _ _ h => h) (Or.inl ⟨by rfl, ?hy_6_5⟩) (by assumption) ?rest_6_5
            case hy_6_5 => (intro w hSw; (try dsimp only at hSw); go_simp; (try (with_reducible rfl)))
            (try simp only [Act.put, List.setIfInBounds_toArray, List.set_cons_succ, List.set_cons_zero])
            refine wpAnyH_take (i := 6) (oi := { dst := some 18, op := Go.Op.indexAddr 27 (Go.Operand.tmp 15) (Go.Operand.tmp 17), type := 0, pos := "ref.go:165", after := #[{ on := 3, ground := Go.Ground.data }, { on := 5, ground := Go.Ground.data }, { on := 2, ground := Go.Ground.guard }], guard := some (2, true) }) (v := ?v_6_6) rfl (by kernel_rfl) (by kernel_rfl) (by kernel_rfl) (fun _ _ _ h => h) (Or.inl ⟨by rfl, ?hy_6_6⟩) (by assumption) ?rest_6_6
            case hy_6_6 => (intro w hSw; (try dsimp only at hSw); go_simp; (try (with_reducible rfl)))
            (try simp only [Act.put, List.setIfInBounds_toArray, List.set_cons_succ, List.set_cons_zero])
            refine wpAnyH_take (i := 7) (oi := { dst := some 19, op := Go.Op.load 43 (Go.Operand.tmp 18), type := 43, pos := "ref.go:165", after := #[{ on := 6, ground := Go.Ground.data }, { on := 2, ground := Go.Ground.guard }], guard := some (2, true) }) (v := ?v_6_7) rfl (by kernel_rfl) (by kernel_rfl) (by kernel_rfl) (fun _ _ _ h => h) (Or.inl ⟨by rfl, ?hy_6_7⟩) (by assumption) ?rest_6_7
            case hy_6_7 => (intro w hSw; (try dsimp only at hSw); go_simp; (try (with_reducible rfl)))
            (try simp only [Act.put, List.setIfInBounds_toArray, List.set_cons_succ, List.set_cons_zero])
            refine wpAnyH_take (i := 8) (oi := { dst := some 20, op := Go.Op.move (Go.Operand.tmp 0), type := 27, pos := "ref.go:165", after := #[{ on := 2, ground := Go.Ground.guard }], guard := some (2, true) }) (v := ?v_6_8) rfl (by kernel_rfl) (by kernel_rfl) (by kernel_rfl) (fun _ _ _ h => h) (Or.inl ⟨by rfl, ?hy_6_8⟩) (by assumption) ?rest_6_8
            case hy_6_8 => (intro w hSw; (try dsimp only at hSw); go_simp; (try (with_reducible rfl)))
            (try simp only [Act.put, List.setIfInBounds_toArray, List.set_cons_succ, List.set_cons_zero])
            refine wpAnyH_take (i := 9) (oi := { dst := some 21, op := Go.Op.move (Go.Operand.tmp 4), type := 3, pos := "ref.go:165", after := #[{ on := 2, ground := Go.Ground.guard }], guard := some (2, true) }) (v := ?v_6_9) rfl (by kernel_rfl) (by kernel_rfl) (by kernel_rfl) (fun _ _ _ h => h) (Or.inl ⟨by rfl, ?hy_6_9⟩) (by assumption) ?rest_6_9
            case hy_6_9 => (intro w hSw; (try dsimp only at hSw); go_simp; (try (with_reducible rfl)))
            (try simp only [Act.put, List.setIfInBounds_toArray, List.set_cons_succ, List.set_cons_zero])
            refine wpAnyH_take (i := 10) (oi := { dst := some 22, op := Go.Op.indexAddr 27 (Go.Operand.tmp 20) (Go.Operand.tmp 21), type := 0, pos := "ref.go:165", after := #[{ on := 8, ground := Go.Ground.data }, { on := 9, ground := Go.Ground.data }, { on := 2, ground := Go.Ground.guard }], guard := some (2, true) }) (v := ?v_6_10) rfl (by kernel_rfl) (by kernel_rfl) (by kernel_rfl) (fun _ _ _ h => h) (Or.inl ⟨by rfl, ?hy_6_10⟩) (by assumption) ?rest_6_10
            case hy_6_10 => (intro w hSw; (try dsimp only at hSw); go_simp; (try (with_reducible rfl)))
            (try simp only [Act.put, List.setIfInBounds_toArray, List.set_cons_succ, List.set_cons_zero])
            refine wpAnyH_take (i := 11) (oi := { dst := some 23, op := Go.Op.load 43 (Go.Operand.tmp 22), type := 43, pos := "ref.go:165", after := #[{ on := 10, ground := Go.Ground.data }, { on := 2, ground := Go.Ground.guard }], guard := some (2, true) }) (v := ?v_6_11) rfl (by kernel_rfl) (by kernel_rfl) (by kernel_rfl) (fun _ _ _ h => h) (Or.inl ⟨by rfl, ?hy_6_11⟩) (by assumption) ?rest_6_11
            case hy_6_11 => (intro w hSw; (try dsimp only at hSw); go_simp; (try (with_reducible rfl)))
            (try simp only [Act.put, List.setIfInBounds_toArray, List.set_cons_succ, List.set_cons_zero])
            refine wpAnyH_ready (rs := [12]) (by kernel_rfl) (by simp) ?_
            refine AllReadyH.cons (o := { dst := some 24, op := Go.Op.call { callee := Go.Callee.value (Go.Operand.func 16), args := #[Go.Operand.tmp 19, Go.Operand.tmp 23], argTypes := #[43, 43] }, type := 4, pos := "ref.go:165", after := #[{ on := 7, ground := Go.Ground.data }, { on := 11, ground := Go.Ground.data }, { on := 2, ground := Go.Ground.chain }, { on := 2, ground := Go.Ground.guard }], guard := some (2, true) }) rfl (fun K hK => ?_) AllReadyH.nil
            go_simp
            (go_at_call 16; (with_reducible refine (C1.out _).mono ?_); rintro e w1 ⟨rfl, hb1⟩; replace d0 := (hb1.cell (p := ⟨g, k * 3, none⟩) (by show g < wr.heap.size; omega)).trans d0; replace d1 := (hb1.cell (p := ⟨g, k * 3 + 1, none⟩) (by show g < wr.heap.size; omega)).trans d1; replace d2 := (hb1.cell (p := ⟨g, k * 3 + 2, none⟩) (by show g < wr.heap.size; omega)).trans d2; replace e0 := (hb1.cell (p := ⟨g, m * 3, none⟩) (by show g < wr.heap.size; omega)).trans e0; replace e1 := (hb1.cell (p := ⟨g, m * 3 + 1, none⟩) (by show g < wr.heap.size; omega)).trans e1; replace e2 := (hb1.cell (p := ⟨g, m * 3 + 2, none⟩) (by show g < wr.heap.size; omega)).trans e2; clear C1)
            (try dsimp only)
            refine hK.out _ _ ?_ (fun hHeld1 => ?_)
            · (try dsimp only); first | assumption | go_keep
            clear hK K hHeld0
            (try simp only [Act.put, List.setIfInBounds_toArray, List.set_cons_succ, List.set_cons_zero])
            refine wpAnyH_take (i := 13) (oi := { dst := some 25, op := Go.Op.pick (Go.Operand.tmp 14) (Go.Operand.tmp 24) (Go.Operand.const (Go.Value.bool false)), type := 4, pos := "ref.go:165", after := #[{ on := 2, ground := Go.Ground.data }, { on := 12, ground := Go.Ground.data }], guard := none }) (v := ?v_6_13) rfl (by kernel_rfl) (by kernel_rfl) (by kernel_rfl) (fun _ _ _ h => h) (Or.inl ⟨by rfl, ?hy_6_13⟩) (by assumption) ?rest_6_13
            case hy_6_13 => (intro w hSw; (try dsimp only at hSw); go_simp; (try (with_reducible rfl)))
            (try simp only [Act.put, List.setIfInBounds_toArray, List.set_cons_succ, List.set_cons_zero])
            refine wpAnyH_done (by kernel_rfl) ?_ _
            go_wp2_with fail
            go_roundw
            case rel => exact ⟨k + 1, by omega, by go_num, by rw [HN.out, HS.out, HTT.out]; exact congrArg Value.string (by apply ByteArray.ext; simp), (hb.drew).trans (hb1.mono hb.size)⟩
            case measure => simp [intOf]; omega
          · have HTT := Lib.hid hT
            have hki' : ki = 3 := by omega
            subst hki'
            have htl : tx.length ≤ 10000 := by rw [hT] at hTl; simp at hTl; omega
            clear hki h0 hT hTl
            have C1 : Hid (∀ W : World, Calls Try.prog 16 #[.agg #[.int .i64 ki2, .int .i64 ps2, .string tx2], .agg #[.int .i64 3, .int .i64 ps, .string ⟨tx.toArray⟩]] W fun e w' => e = .returned (.bool false) ∧ Below W.heap.size W w') := fun W => by have := refSpace_any ki2 3 ps2 ps tx2 ⟨tx.toArray⟩ W; rw [hspace] at this; exact this
            clear hspace
            go_wp2_with fail
            refine wp_region_held_drew (S := fun w' => w'.cell? ⟨g, k * 3, none⟩ = some (.int .i64 3) ∧ w'.cell? ⟨g, k * 3 + 1, none⟩ = some (.int .i64 ps) ∧ w'.cell? ⟨g, k * 3 + 2, none⟩ = some (.string ⟨tx.toArray⟩) ∧ w'.cell? ⟨g, m * 3, none⟩ = some (.int .i64 ki2) ∧ w'.cell? ⟨g, m * 3 + 1, none⟩ = some (.int .i64 ps2) ∧ w'.cell? ⟨g, m * 3 + 2, none⟩ = some (.string tx2)) (by kernel_rfl) ?_ (fun hHeld0 => ?_)
            · first | assumption | go_keep
            refine wpAnyH_take (i := 0) (oi := { dst := some 12, op := Go.Op.move (Go.Operand.tmp 4), type := 3, pos := "ref.go:165", after := #[], guard := none }) (v := ?v_7_0) rfl (by kernel_rfl) (by kernel_rfl) (by kernel_rfl) (fun _ _ _ h => h) (Or.inl ⟨by rfl, ?hy_7_0⟩) (by assumption) ?rest_7_0
            case hy_7_0 => (intro w hSw; (try dsimp only at hSw); go_simp; (try (with_reducible rfl)))
            (try simp only [Act.put, List.setIfInBounds_toArray, List.set_cons_succ, List.set_cons_zero])
            refine wpAnyH_take (i := 1) (oi := { dst := some 13, op := Go.Op.binOp Go.BinOp.gtr 3 (Go.Operand.tmp 12) (Go.Operand.const (Go.Value.int Go.IntKind.i64 0)) 3, type := 4, pos := "ref.go:165", after := #[{ on := 0, ground := Go.Ground.data }], guard := none }) (v := ?v_7_1) rfl (by kernel_rfl) (by kernel_rfl) (by kernel_rfl) (fun _ _ _ h => h) (Or.inl ⟨by rfl, ?hy_7_1⟩) (by assumption) ?rest_7_1
            case hy_7_1 => (intro w hSw; (try dsimp only at hSw); go_simp; (try (with_reducible rfl)))
            (try simp only [Act.put, List.setIfInBounds_toArray, List.set_cons_succ, List.set_cons_zero])
            refine wpAnyH_take (i := 2) (oi := { dst := some 14, op := Go.Op.move (Go.Operand.tmp 13), type := 4, pos := "ref.go:165", after := #[{ on := 1, ground := Go.Ground.data }], guard := none }) (v := ?v_7_2) rfl (by kernel_rfl) (by kernel_rfl) (by kernel_rfl) (fun _ _ _ h => h) (Or.inl ⟨by rfl, ?hy_7_2⟩) (by assumption) ?rest_7_2
            case hy_7_2 => (intro w hSw; (try dsimp only at hSw); go_simp; (try (with_reducible rfl)))
            (try simp only [Act.put, List.setIfInBounds_toArray, List.set_cons_succ, List.set_cons_zero])
            refine wpAnyH_take (i := 3) (oi := { dst := some 15, op := Go.Op.move (Go.Operand.tmp 0), type := 27, pos := "ref.go:165", after := #[{ on := 2, ground := Go.Ground.guard }], guard := some (2, true) }) (v := ?v_7_3) rfl (by kernel_rfl) (by kernel_rfl) (by kernel_rfl) (fun _ _ _ h => h) (Or.inl ⟨by rfl, ?hy_7_3⟩) (by assumption) ?rest_7_3
            case hy_7_3 => (intro w hSw; (try dsimp only at hSw); go_simp; (try (with_reducible rfl)))
            (try simp only [Act.put, List.setIfInBounds_toArray, List.set_cons_succ, List.set_cons_zero])
            refine wpAnyH_take (i := 4) (oi := { dst := some 16, op := Go.Op.move (Go.Operand.tmp 4), type := 3, pos := "ref.go:165", after := #[{ on := 2, ground := Go.Ground.guard }], guard := some (2, true) }) (v := ?v_7_4) rfl (by kernel_rfl) (by kernel_rfl) (by kernel_rfl) (fun _ _ _ h => h) (Or.inl ⟨by rfl, ?hy_7_4⟩) (by assumption) ?rest_7_4
            case hy_7_4 => (intro w hSw; (try dsimp only at hSw); go_simp; (try (with_reducible rfl)))
            (try simp only [Act.put, List.setIfInBounds_toArray, List.set_cons_succ, List.set_cons_zero])
            refine wpAnyH_take (i := 5) (oi := { dst := some 17, op := Go.Op.binOp Go.BinOp.sub 3 (Go.Operand.tmp 16) (Go.Operand.const (Go.Value.int Go.IntKind.i64 1)) 3, type := 3, pos := "ref.go:165", after := #[{ on := 4, ground := Go.Ground.data }, { on := 2, ground := Go.Ground.guard }], guard := some (2, true) }) (v := ?v_7_5) rfl (by kernel_rfl) (by kernel_rfl) (by kernel_rfl) (fun _ _ _ h => h) (Or.inl ⟨by rfl, ?hy_7_5⟩) (by assumption) ?rest_7_5
            case hy_7_5 => (intro w hSw; (try dsimp only at hSw); go_simp; (try (with_reducible rfl)))
            (try simp only [Act.put, List.setIfInBounds_toArray, List.set_cons_succ, List.set_cons_zero])
            refine wpAnyH_take (i := 6) (oi := { dst := some 18, op := Go.Op.indexAddr 27 (Go.Operand.tmp 15) (Go.Operand.tmp 17), type := 0, pos := "ref.go:165", after := #[{ on := 3, ground := Go.Ground.data }, { on := 5, ground := Go.Ground.data }, { on := 2, ground := Go.Ground.guard }], guard := some (2, true) }) (v := ?v_7_6) rfl (by kernel_rfl) (by kernel_rfl) (by kernel_rfl) (fun _ _ _ h => h) (Or.inl ⟨by rfl, ?hy_7_6⟩) (by assumption) ?rest_7_6
            case hy_7_6 => (intro w hSw; (try dsimp only at hSw); go_simp; (try (with_reducible rfl)))
            (try simp only [Act.put, List.setIfInBounds_toArray, List.set_cons_succ, List.set_cons_zero])
            refine wpAnyH_take (i := 7) (oi := { dst := some 19, op := Go.Op.load 43 (Go.Operand.tmp 18), type := 43, pos := "ref.go:165", after := #[{ on := 6, ground := Go.Ground.data }, { on := 2, ground := Go.Ground.guard }], guard := some (2, true) }) (v := ?v_7_7) rfl (by kernel_rfl) (by kernel_rfl) (by kernel_rfl) (fun _ _ _ h => h) (Or.inl ⟨by rfl, ?hy_7_7⟩) (by assumption) ?rest_7_7
            case hy_7_7 => (intro w hSw; (try dsimp only at hSw); go_simp; (try (with_reducible rfl)))
            (try simp only [Act.put, List.setIfInBounds_toArray, List.set_cons_succ, List.set_cons_zero])
            refine wpAnyH_take (i := 8) (oi := { dst := some 20, op := Go.Op.move (Go.Operand.tmp 0), type := 27, pos := "ref.go:165", after := #[{ on := 2, ground := Go.Ground.guard }], guard := some (2, true) }) (v := ?v_7_8) rfl (by kernel_rfl) (by kernel_rfl) (by kernel_rfl) (fun _ _ _ h => h) (Or.inl ⟨by rfl, ?hy_7_8⟩) (by assumption) ?rest_7_8
            case hy_7_8 => (intro w hSw; (try dsimp only at hSw); go_simp; (try (with_reducible rfl)))
            (try simp only [Act.put, List.setIfInBounds_toArray, List.set_cons_succ, List.set_cons_zero])
            refine wpAnyH_take (i := 9) (oi := { dst := some 21, op := Go.Op.move (Go.Operand.tmp 4), type := 3, pos := "ref.go:165", after := #[{ on := 2, ground := Go.Ground.guard }], guard := some (2, true) }) (v := ?v_7_9) rfl (by kernel_rfl) (by kernel_rfl) (by kernel_rfl) (fun _ _ _ h => h) (Or.inl ⟨by rfl, ?hy_7_9⟩) (by assumption) ?rest_7_9
            case hy_7_9 => (intro w hSw; (try dsimp only at hSw); go_simp; (try (with_reducible rfl)))
            (try simp only [Act.put, List.setIfInBounds_toArray, List.set_cons_succ, List.set_cons_zero])
            refine wpAnyH_take (i := 10) (oi := { dst := some 22, op := Go.Op.indexAddr 27 (Go.Operand.tmp 20) (Go.Operand.tmp 21), type := 0, pos := "ref.go:165", after := #[{ on := 8, ground := Go.Ground.data }, { on := 9, ground := Go.Ground.data }, { on := 2, ground := Go.Ground.guard }], guard := some (2, true) }) (v := ?v_7_10) rfl (by kernel_rfl) (by kernel_rfl) (by kernel_rfl) (fun _ _ _ h => h) (Or.inl ⟨by rfl, ?hy_7_10⟩) (by assumption) ?rest_7_10
            case hy_7_10 => (intro w hSw; (try dsimp only at hSw); go_simp; (try (with_reducible rfl)))
            (try simp only [Act.put, List.setIfInBounds_toArray, List.set_cons_succ, List.set_cons_zero])
            refine wpAnyH_take (i := 11) (oi := { dst := some 23, op := Go.Op.load 43 (Go.Operand.tmp 22), type := 43, pos := "ref.go:165", after := #[{ on := 10, ground := Go.Ground.data }, { on := 2, ground := Go.Ground.guard }], guard := some (2, true) }) (v := ?v_7_11) rfl (by kernel_rfl) (by kernel_rfl) (by kernel_rfl) (fun _ _ _ h => h) (Or.inl ⟨by rfl, ?hy_7_11⟩) (by assumption) ?rest_7_11
            case hy_7_11 => (intro w hSw; (try dsimp only at hSw); go_simp; (try (with_reducible rfl)))
            (try simp only [Act.put, List.setIfInBounds_toArray, List.set_cons_succ, List.set_cons_zero])
            refine wpAnyH_ready (rs := [12]) (by kernel_rfl) (by simp) ?_
            refine AllReadyH.cons (o := { dst := some 24, op := Go.Op.call { callee := Go.Callee.value (Go.Operand.func 16), args := #[Go.Operand.tmp 19, Go.Operand.tmp 23], argTypes := #[43, 43] }, type := 4, pos := "ref.go:165", after := #[{ on := 7, ground := Go.Ground.data }, { on := 11, ground := Go.Ground.data }, { on := 2, ground := Go.Ground.chain }, { on := 2, ground := Go.Ground.guard }], guard := some (2, true) }) rfl (fun K hK => ?_) AllReadyH.nil
            go_simp
            (go_at_call 16; (with_reducible refine (C1.out _).mono ?_); rintro e w1 ⟨rfl, hb1⟩; replace d0 := (hb1.cell (p := ⟨g, k * 3, none⟩) (by show g < wr.heap.size; omega)).trans d0; replace d1 := (hb1.cell (p := ⟨g, k * 3 + 1, none⟩) (by show g < wr.heap.size; omega)).trans d1; replace d2 := (hb1.cell (p := ⟨g, k * 3 + 2, none⟩) (by show g < wr.heap.size; omega)).trans d2; replace e0 := (hb1.cell (p := ⟨g, m * 3, none⟩) (by show g < wr.heap.size; omega)).trans e0; replace e1 := (hb1.cell (p := ⟨g, m * 3 + 1, none⟩) (by show g < wr.heap.size; omega)).trans e1; replace e2 := (hb1.cell (p := ⟨g, m * 3 + 2, none⟩) (by show g < wr.heap.size; omega)).trans e2; clear C1)
            (try dsimp only)
            refine hK.out _ _ ?_ (fun hHeld1 => ?_)
            · (try dsimp only); first | assumption | go_keep
            clear hK K hHeld0
            (try simp only [Act.put, List.setIfInBounds_toArray, List.set_cons_succ, List.set_cons_zero])
            refine wpAnyH_take (i := 13) (oi := { dst := some 25, op := Go.Op.pick (Go.Operand.tmp 14) (Go.Operand.tmp 24) (Go.Operand.const (Go.Value.bool false)), type := 4, pos := "ref.go:165", after := #[{ on := 2, ground := Go.Ground.data }, { on := 12, ground := Go.Ground.data }], guard := none }) (v := ?v_7_13) rfl (by kernel_rfl) (by kernel_rfl) (by kernel_rfl) (fun _ _ _ h => h) (Or.inl ⟨by rfl, ?hy_7_13⟩) (by assumption) ?rest_7_13
            case hy_7_13 => (intro w hSw; (try dsimp only at hSw); go_simp; (try (with_reducible rfl)))
            (try simp only [Act.put, List.setIfInBounds_toArray, List.set_cons_succ, List.set_cons_zero])
            refine wpAnyH_done (by kernel_rfl) ?_ _
            go_wp2_with fail
            go_roundw
            case rel => exact ⟨k + 1, by omega, by go_num, by rw [HN.out, HS.out, HTT.out]; exact congrArg Value.string (by apply ByteArray.ext; simp), (hb.drew).trans (hb1.mono hb.size)⟩
            case measure => simp [intOf]; omega
          · have HTT := Lib.hid hT
            have g0 : (ki == 0) = false := by simpa using (by omega : ¬ ki = 0)
            have g1 : (ki == 1) = false := by simpa using (by omega : ¬ ki = 1)
            have g3 : (ki == 3) = false := by simpa using (by omega : ¬ ki = 3)
            have htl : tx.length ≤ 10000 := by rw [hT] at hTl; omega
            clear hki h0 hT hTl h1 h3
            have C1 : Hid (∀ W : World, Calls Try.prog 16 #[.agg #[.int .i64 ki2, .int .i64 ps2, .string tx2], .agg #[.int .i64 ki, .int .i64 ps, .string ⟨tx.toArray⟩]] W fun e w' => e = .returned (.bool false) ∧ Below W.heap.size W w') := fun W => by have := refSpace_any ki2 ki ps2 ps tx2 ⟨tx.toArray⟩ W; rw [hspace] at this; exact this
            clear hspace
            go_wp2_with fail
            refine wp_region_held_drew (S := fun w' => w'.cell? ⟨g, k * 3, none⟩ = some (.int .i64 ki) ∧ w'.cell? ⟨g, k * 3 + 1, none⟩ = some (.int .i64 ps) ∧ w'.cell? ⟨g, k * 3 + 2, none⟩ = some (.string ⟨tx.toArray⟩) ∧ w'.cell? ⟨g, m * 3, none⟩ = some (.int .i64 ki2) ∧ w'.cell? ⟨g, m * 3 + 1, none⟩ = some (.int .i64 ps2) ∧ w'.cell? ⟨g, m * 3 + 2, none⟩ = some (.string tx2)) (by kernel_rfl) ?_ (fun hHeld0 => ?_)
            · first | assumption | go_keep
            refine wpAnyH_take (i := 0) (oi := { dst := some 12, op := Go.Op.move (Go.Operand.tmp 4), type := 3, pos := "ref.go:165", after := #[], guard := none }) (v := ?v_8_0) rfl (by kernel_rfl) (by kernel_rfl) (by kernel_rfl) (fun _ _ _ h => h) (Or.inl ⟨by rfl, ?hy_8_0⟩) (by assumption) ?rest_8_0
            case hy_8_0 => (intro w hSw; (try dsimp only at hSw); go_simp; (try (with_reducible rfl)))
            (try simp only [Act.put, List.setIfInBounds_toArray, List.set_cons_succ, List.set_cons_zero])
            refine wpAnyH_take (i := 1) (oi := { dst := some 13, op := Go.Op.binOp Go.BinOp.gtr 3 (Go.Operand.tmp 12) (Go.Operand.const (Go.Value.int Go.IntKind.i64 0)) 3, type := 4, pos := "ref.go:165", after := #[{ on := 0, ground := Go.Ground.data }], guard := none }) (v := ?v_8_1) rfl (by kernel_rfl) (by kernel_rfl) (by kernel_rfl) (fun _ _ _ h => h) (Or.inl ⟨by rfl, ?hy_8_1⟩) (by assumption) ?rest_8_1
            case hy_8_1 => (intro w hSw; (try dsimp only at hSw); go_simp; (try (with_reducible rfl)))
            (try simp only [Act.put, List.setIfInBounds_toArray, List.set_cons_succ, List.set_cons_zero])
            refine wpAnyH_take (i := 2) (oi := { dst := some 14, op := Go.Op.move (Go.Operand.tmp 13), type := 4, pos := "ref.go:165", after := #[{ on := 1, ground := Go.Ground.data }], guard := none }) (v := ?v_8_2) rfl (by kernel_rfl) (by kernel_rfl) (by kernel_rfl) (fun _ _ _ h => h) (Or.inl ⟨by rfl, ?hy_8_2⟩) (by assumption) ?rest_8_2
            case hy_8_2 => (intro w hSw; (try dsimp only at hSw); go_simp; (try (with_reducible rfl)))
            (try simp only [Act.put, List.setIfInBounds_toArray, List.set_cons_succ, List.set_cons_zero])
            refine wpAnyH_take (i := 3) (oi := { dst := some 15, op := Go.Op.move (Go.Operand.tmp 0), type := 27, pos := "ref.go:165", after := #[{ on := 2, ground := Go.Ground.guard }], guard := some (2, true) }) (v := ?v_8_3) rfl (by kernel_rfl) (by kernel_rfl) (by kernel_rfl) (fun _ _ _ h => h) (Or.inl ⟨by rfl, ?hy_8_3⟩) (by assumption) ?rest_8_3
            case hy_8_3 => (intro w hSw; (try dsimp only at hSw); go_simp; (try (with_reducible rfl)))
            (try simp only [Act.put, List.setIfInBounds_toArray, List.set_cons_succ, List.set_cons_zero])
            refine wpAnyH_take (i := 4) (oi := { dst := some 16, op := Go.Op.move (Go.Operand.tmp 4), type := 3, pos := "ref.go:165", after := #[{ on := 2, ground := Go.Ground.guard }], guard := some (2, true) }) (v := ?v_8_4) rfl (by kernel_rfl) (by kernel_rfl) (by kernel_rfl) (fun _ _ _ h => h) (Or.inl ⟨by rfl, ?hy_8_4⟩) (by assumption) ?rest_8_4
            case hy_8_4 => (intro w hSw; (try dsimp only at hSw); go_simp; (try (with_reducible rfl)))
            (try simp only [Act.put, List.setIfInBounds_toArray, List.set_cons_succ, List.set_cons_zero])
            refine wpAnyH_take (i := 5) (oi := { dst := some 17, op := Go.Op.binOp Go.BinOp.sub 3 (Go.Operand.tmp 16) (Go.Operand.const (Go.Value.int Go.IntKind.i64 1)) 3, type := 3, pos := "ref.go:165", after := #[{ on := 4, ground := Go.Ground.data }, { on := 2, ground := Go.Ground.guard }], guard := some (2, true) }) (v := ?v_8_5) rfl (by kernel_rfl) (by kernel_rfl) (by kernel_rfl) (fun _ _ _ h => h) (Or.inl ⟨by rfl, ?hy_8_5⟩) (by assumption) ?rest_8_5
            case hy_8_5 => (intro w hSw; (try dsimp only at hSw); go_simp; (try (with_reducible rfl)))
            (try simp only [Act.put, List.setIfInBounds_toArray, List.set_cons_succ, List.set_cons_zero])
            refine wpAnyH_take (i := 6) (oi := { dst := some 18, op := Go.Op.indexAddr 27 (Go.Operand.tmp 15) (Go.Operand.tmp 17), type := 0, pos := "ref.go:165", after := #[{ on := 3, ground := Go.Ground.data }, { on := 5, ground := Go.Ground.data }, { on := 2, ground := Go.Ground.guard }], guard := some (2, true) }) (v := ?v_8_6) rfl (by kernel_rfl) (by kernel_rfl) (by kernel_rfl) (fun _ _ _ h => h) (Or.inl ⟨by rfl, ?hy_8_6⟩) (by assumption) ?rest_8_6
            case hy_8_6 => (intro w hSw; (try dsimp only at hSw); go_simp; (try (with_reducible rfl)))
            (try simp only [Act.put, List.setIfInBounds_toArray, List.set_cons_succ, List.set_cons_zero])
            refine wpAnyH_take (i := 7) (oi := { dst := some 19, op := Go.Op.load 43 (Go.Operand.tmp 18), type := 43, pos := "ref.go:165", after := #[{ on := 6, ground := Go.Ground.data }, { on := 2, ground := Go.Ground.guard }], guard := some (2, true) }) (v := ?v_8_7) rfl (by kernel_rfl) (by kernel_rfl) (by kernel_rfl) (fun _ _ _ h => h) (Or.inl ⟨by rfl, ?hy_8_7⟩) (by assumption) ?rest_8_7
            case hy_8_7 => (intro w hSw; (try dsimp only at hSw); go_simp; (try (with_reducible rfl)))
            (try simp only [Act.put, List.setIfInBounds_toArray, List.set_cons_succ, List.set_cons_zero])
            refine wpAnyH_take (i := 8) (oi := { dst := some 20, op := Go.Op.move (Go.Operand.tmp 0), type := 27, pos := "ref.go:165", after := #[{ on := 2, ground := Go.Ground.guard }], guard := some (2, true) }) (v := ?v_8_8) rfl (by kernel_rfl) (by kernel_rfl) (by kernel_rfl) (fun _ _ _ h => h) (Or.inl ⟨by rfl, ?hy_8_8⟩) (by assumption) ?rest_8_8
            case hy_8_8 => (intro w hSw; (try dsimp only at hSw); go_simp; (try (with_reducible rfl)))
            (try simp only [Act.put, List.setIfInBounds_toArray, List.set_cons_succ, List.set_cons_zero])
            refine wpAnyH_take (i := 9) (oi := { dst := some 21, op := Go.Op.move (Go.Operand.tmp 4), type := 3, pos := "ref.go:165", after := #[{ on := 2, ground := Go.Ground.guard }], guard := some (2, true) }) (v := ?v_8_9) rfl (by kernel_rfl) (by kernel_rfl) (by kernel_rfl) (fun _ _ _ h => h) (Or.inl ⟨by rfl, ?hy_8_9⟩) (by assumption) ?rest_8_9
            case hy_8_9 => (intro w hSw; (try dsimp only at hSw); go_simp; (try (with_reducible rfl)))
            (try simp only [Act.put, List.setIfInBounds_toArray, List.set_cons_succ, List.set_cons_zero])
            refine wpAnyH_take (i := 10) (oi := { dst := some 22, op := Go.Op.indexAddr 27 (Go.Operand.tmp 20) (Go.Operand.tmp 21), type := 0, pos := "ref.go:165", after := #[{ on := 8, ground := Go.Ground.data }, { on := 9, ground := Go.Ground.data }, { on := 2, ground := Go.Ground.guard }], guard := some (2, true) }) (v := ?v_8_10) rfl (by kernel_rfl) (by kernel_rfl) (by kernel_rfl) (fun _ _ _ h => h) (Or.inl ⟨by rfl, ?hy_8_10⟩) (by assumption) ?rest_8_10
            case hy_8_10 => (intro w hSw; (try dsimp only at hSw); go_simp; (try (with_reducible rfl)))
            (try simp only [Act.put, List.setIfInBounds_toArray, List.set_cons_succ, List.set_cons_zero])
            refine wpAnyH_take (i := 11) (oi := { dst := some 23, op := Go.Op.load 43 (Go.Operand.tmp 22), type := 43, pos := "ref.go:165", after := #[{ on := 10, ground := Go.Ground.data }, { on := 2, ground := Go.Ground.guard }], guard := some (2, true) }) (v := ?v_8_11) rfl (by kernel_rfl) (by kernel_rfl) (by kernel_rfl) (fun _ _ _ h => h) (Or.inl ⟨by rfl, ?hy_8_11⟩) (by assumption) ?rest_8_11
            case hy_8_11 => (intro w hSw; (try dsimp only at hSw); go_simp; (try (with_reducible rfl)))
            (try simp only [Act.put, List.setIfInBounds_toArray, List.set_cons_succ, List.set_cons_zero])
            refine wpAnyH_ready (rs := [12]) (by kernel_rfl) (by simp) ?_
            refine AllReadyH.cons (o := { dst := some 24, op := Go.Op.call { callee := Go.Callee.value (Go.Operand.func 16), args := #[Go.Operand.tmp 19, Go.Operand.tmp 23], argTypes := #[43, 43] }, type := 4, pos := "ref.go:165", after := #[{ on := 7, ground := Go.Ground.data }, { on := 11, ground := Go.Ground.data }, { on := 2, ground := Go.Ground.chain }, { on := 2, ground := Go.Ground.guard }], guard := some (2, true) }) rfl (fun K hK => ?_) AllReadyH.nil
            go_simp
            (go_at_call 16; (with_reducible refine (C1.out _).mono ?_); rintro e w1 ⟨rfl, hb1⟩; replace d0 := (hb1.cell (p := ⟨g, k * 3, none⟩) (by show g < wr.heap.size; omega)).trans d0; replace d1 := (hb1.cell (p := ⟨g, k * 3 + 1, none⟩) (by show g < wr.heap.size; omega)).trans d1; replace d2 := (hb1.cell (p := ⟨g, k * 3 + 2, none⟩) (by show g < wr.heap.size; omega)).trans d2; replace e0 := (hb1.cell (p := ⟨g, m * 3, none⟩) (by show g < wr.heap.size; omega)).trans e0; replace e1 := (hb1.cell (p := ⟨g, m * 3 + 1, none⟩) (by show g < wr.heap.size; omega)).trans e1; replace e2 := (hb1.cell (p := ⟨g, m * 3 + 2, none⟩) (by show g < wr.heap.size; omega)).trans e2; clear C1)
            (try dsimp only)
            refine hK.out _ _ ?_ (fun hHeld1 => ?_)
            · (try dsimp only); first | assumption | go_keep
            clear hK K hHeld0
            (try simp only [Act.put, List.setIfInBounds_toArray, List.set_cons_succ, List.set_cons_zero])
            refine wpAnyH_take (i := 13) (oi := { dst := some 25, op := Go.Op.pick (Go.Operand.tmp 14) (Go.Operand.tmp 24) (Go.Operand.const (Go.Value.bool false)), type := 4, pos := "ref.go:165", after := #[{ on := 2, ground := Go.Ground.data }, { on := 12, ground := Go.Ground.data }], guard := none }) (v := ?v_8_13) rfl (by kernel_rfl) (by kernel_rfl) (by kernel_rfl) (fun _ _ _ h => h) (Or.inl ⟨by rfl, ?hy_8_13⟩) (by assumption) ?rest_8_13
            case hy_8_13 => (intro w hSw; (try dsimp only at hSw); go_simp; (try (with_reducible rfl)))
            (try simp only [Act.put, List.setIfInBounds_toArray, List.set_cons_succ, List.set_cons_zero])
            refine wpAnyH_done (by kernel_rfl) ?_ _
            go_wp2_with fail
            go_roundw
            case rel => exact ⟨k + 1, by omega, by go_num, by rw [HN.out, HS.out, HTT.out]; exact congrArg Value.string (by apply ByteArray.ext; simp), (hb.drew).trans (hb1.mono hb.size)⟩
            case measure => simp [intOf]; omega
        · rw [hbl] at hspace hSp
          have HS : Hid (Sp = [32]) := Lib.hid (by simpa using hSp)
          clear hSp hbl
          rcases htt with ⟨h0, hT⟩ | ⟨h0, hT⟩ | ⟨h0, hT⟩ | ⟨h0, h1, h3, hT⟩
          · have HTT := Lib.hid hT
            have hki' : ki = 0 := by omega
            subst hki'
            clear hki h0 hT hTl
            have C1 : Hid (∀ W : World, Calls Try.prog 16 #[.agg #[.int .i64 ki2, .int .i64 ps2, .string tx2], .agg #[.int .i64 0, .int .i64 ps, .string ⟨tx.toArray⟩]] W fun e w' => e = .returned (.bool true) ∧ Below W.heap.size W w') := fun W => by have := refSpace_any ki2 0 ps2 ps tx2 ⟨tx.toArray⟩ W; rw [hspace] at this; exact this
            clear hspace
            go_wp2_with fail
            refine wp_region_held_drew (S := fun w' => w'.cell? ⟨g, k * 3, none⟩ = some (.int .i64 0) ∧ w'.cell? ⟨g, k * 3 + 1, none⟩ = some (.int .i64 ps) ∧ w'.cell? ⟨g, k * 3 + 2, none⟩ = some (.string ⟨tx.toArray⟩) ∧ w'.cell? ⟨g, m * 3, none⟩ = some (.int .i64 ki2) ∧ w'.cell? ⟨g, m * 3 + 1, none⟩ = some (.int .i64 ps2) ∧ w'.cell? ⟨g, m * 3 + 2, none⟩ = some (.string tx2)) (by kernel_rfl) ?_ (fun hHeld0 => ?_)
            · first | assumption | go_keep
            refine wpAnyH_take (i := 0) (oi := { dst := some 12, op := Go.Op.move (Go.Operand.tmp 4), type := 3, pos := "ref.go:165", after := #[], guard := none }) (v := ?v_9_0) rfl (by kernel_rfl) (by kernel_rfl) (by kernel_rfl) (fun _ _ _ h => h) (Or.inl ⟨by rfl, ?hy_9_0⟩) (by assumption) ?rest_9_0
            case hy_9_0 => (intro w hSw; (try dsimp only at hSw); go_simp; (try (with_reducible rfl)))
            (try simp only [Act.put, List.setIfInBounds_toArray, List.set_cons_succ, List.set_cons_zero])
            refine wpAnyH_take (i := 1) (oi := { dst := some 13, op := Go.Op.binOp Go.BinOp.gtr 3 (Go.Operand.tmp 12) (Go.Operand.const (Go.Value.int Go.IntKind.i64 0)) 3, type := 4, pos := "ref.go:165", after := #[{ on := 0, ground := Go.Ground.data }], guard := none }) (v := ?v_9_1) rfl (by kernel_rfl) (by kernel_rfl) (by kernel_rfl) (fun _ _ _ h => h) (Or.inl ⟨by rfl, ?hy_9_1⟩) (by assumption) ?rest_9_1
            case hy_9_1 => (intro w hSw; (try dsimp only at hSw); go_simp; (try (with_reducible rfl)))
            (try simp only [Act.put, List.setIfInBounds_toArray, List.set_cons_succ, List.set_cons_zero])
            refine wpAnyH_take (i := 2) (oi := { dst := some 14, op := Go.Op.move (Go.Operand.tmp 13), type := 4, pos := "ref.go:165", after := #[{ on := 1, ground := Go.Ground.data }], guard := none }) (v := ?v_9_2) rfl (by kernel_rfl) (by kernel_rfl) (by kernel_rfl) (fun _ _ _ h => h) (Or.inl ⟨by rfl, ?hy_9_2⟩) (by assumption) ?rest_9_2
            case hy_9_2 => (intro w hSw; (try dsimp only at hSw); go_simp; (try (with_reducible rfl)))
            (try simp only [Act.put, List.setIfInBounds_toArray, List.set_cons_succ, List.set_cons_zero])
            refine wpAnyH_take (i := 3) (oi := { dst := some 15, op := Go.Op.move (Go.Operand.tmp 0), type := 27, pos := "ref.go:165", after := #[{ on := 2, ground := Go.Ground.guard }], guard := some (2, true) }) (v := ?v_9_3) rfl (by kernel_rfl) (by kernel_rfl) (by kernel_rfl) (fun _ _ _ h => h) (Or.inl ⟨by rfl, ?hy_9_3⟩) (by assumption) ?rest_9_3
            case hy_9_3 => (intro w hSw; (try dsimp only at hSw); go_simp; (try (with_reducible rfl)))
            (try simp only [Act.put, List.setIfInBounds_toArray, List.set_cons_succ, List.set_cons_zero])
            refine wpAnyH_take (i := 4) (oi := { dst := some 16, op := Go.Op.move (Go.Operand.tmp 4), type := 3, pos := "ref.go:165", after := #[{ on := 2, ground := Go.Ground.guard }], guard := some (2, true) }) (v := ?v_9_4) rfl (by kernel_rfl) (by kernel_rfl) (by kernel_rfl) (fun _ _ _ h => h) (Or.inl ⟨by rfl, ?hy_9_4⟩) (by assumption) ?rest_9_4
            case hy_9_4 => (intro w hSw; (try dsimp only at hSw); go_simp; (try (with_reducible rfl)))
            (try simp only [Act.put, List.setIfInBounds_toArray, List.set_cons_succ, List.set_cons_zero])
            refine wpAnyH_take (i := 5) (oi := { dst := some 17, op := Go.Op.binOp Go.BinOp.sub 3 (Go.Operand.tmp 16) (Go.Operand.const (Go.Value.int Go.IntKind.i64 1)) 3, type := 3, pos := "ref.go:165", after := #[{ on := 4, ground := Go.Ground.data }, { on := 2, ground := Go.Ground.guard }], guard := some (2, true) }) (v := ?v_9_5) rfl (by kernel_rfl) (by kernel_rfl) (by kernel_rfl) (fun _ _ _ h => h) (Or.inl ⟨by rfl, ?hy_9_5⟩) (by assumption) ?rest_9_5
            case hy_9_5 => (intro w hSw; (try dsimp only at hSw); go_simp; (try (with_reducible rfl)))
            (try simp only [Act.put, List.setIfInBounds_toArray, List.set_cons_succ, List.set_cons_zero])
            refine wpAnyH_take (i := 6) (oi := { dst := some 18, op := Go.Op.indexAddr 27 (Go.Operand.tmp 15) (Go.Operand.tmp 17), type := 0, pos := "ref.go:165", after := #[{ on := 3, ground := Go.Ground.data }, { on := 5, ground := Go.Ground.data }, { on := 2, ground := Go.Ground.guard }], guard := some (2, true) }) (v := ?v_9_6) rfl (by kernel_rfl) (by kernel_rfl) (by kernel_rfl) (fun _ _ _ h => h) (Or.inl ⟨by rfl, ?hy_9_6⟩) (by assumption) ?rest_9_6
            case hy_9_6 => (intro w hSw; (try dsimp only at hSw); go_simp; (try (with_reducible rfl)))
            (try simp only [Act.put, List.setIfInBounds_toArray, List.set_cons_succ, List.set_cons_zero])
            refine wpAnyH_take (i := 7) (oi := { dst := some 19, op := Go.Op.load 43 (Go.Operand.tmp 18), type := 43, pos := "ref.go:165", after := #[{ on := 6, ground := Go.Ground.data }, { on := 2, ground := Go.Ground.guard }], guard := some (2, true) }) (v := ?v_9_7) rfl (by kernel_rfl) (by kernel_rfl) (by kernel_rfl) (fun _ _ _ h => h) (Or.inl ⟨by rfl, ?hy_9_7⟩) (by assumption) ?rest_9_7
            case hy_9_7 => (intro w hSw; (try dsimp only at hSw); go_simp; (try (with_reducible rfl)))
            (try simp only [Act.put, List.setIfInBounds_toArray, List.set_cons_succ, List.set_cons_zero])
            refine wpAnyH_take (i := 8) (oi := { dst := some 20, op := Go.Op.move (Go.Operand.tmp 0), type := 27, pos := "ref.go:165", after := #[{ on := 2, ground := Go.Ground.guard }], guard := some (2, true) }) (v := ?v_9_8) rfl (by kernel_rfl) (by kernel_rfl) (by kernel_rfl) (fun _ _ _ h => h) (Or.inl ⟨by rfl, ?hy_9_8⟩) (by assumption) ?rest_9_8
            case hy_9_8 => (intro w hSw; (try dsimp only at hSw); go_simp; (try (with_reducible rfl)))
            (try simp only [Act.put, List.setIfInBounds_toArray, List.set_cons_succ, List.set_cons_zero])
            refine wpAnyH_take (i := 9) (oi := { dst := some 21, op := Go.Op.move (Go.Operand.tmp 4), type := 3, pos := "ref.go:165", after := #[{ on := 2, ground := Go.Ground.guard }], guard := some (2, true) }) (v := ?v_9_9) rfl (by kernel_rfl) (by kernel_rfl) (by kernel_rfl) (fun _ _ _ h => h) (Or.inl ⟨by rfl, ?hy_9_9⟩) (by assumption) ?rest_9_9
            case hy_9_9 => (intro w hSw; (try dsimp only at hSw); go_simp; (try (with_reducible rfl)))
            (try simp only [Act.put, List.setIfInBounds_toArray, List.set_cons_succ, List.set_cons_zero])
            refine wpAnyH_take (i := 10) (oi := { dst := some 22, op := Go.Op.indexAddr 27 (Go.Operand.tmp 20) (Go.Operand.tmp 21), type := 0, pos := "ref.go:165", after := #[{ on := 8, ground := Go.Ground.data }, { on := 9, ground := Go.Ground.data }, { on := 2, ground := Go.Ground.guard }], guard := some (2, true) }) (v := ?v_9_10) rfl (by kernel_rfl) (by kernel_rfl) (by kernel_rfl) (fun _ _ _ h => h) (Or.inl ⟨by rfl, ?hy_9_10⟩) (by assumption) ?rest_9_10
            case hy_9_10 => (intro w hSw; (try dsimp only at hSw); go_simp; (try (with_reducible rfl)))
            (try simp only [Act.put, List.setIfInBounds_toArray, List.set_cons_succ, List.set_cons_zero])
            refine wpAnyH_take (i := 11) (oi := { dst := some 23, op := Go.Op.load 43 (Go.Operand.tmp 22), type := 43, pos := "ref.go:165", after := #[{ on := 10, ground := Go.Ground.data }, { on := 2, ground := Go.Ground.guard }], guard := some (2, true) }) (v := ?v_9_11) rfl (by kernel_rfl) (by kernel_rfl) (by kernel_rfl) (fun _ _ _ h => h) (Or.inl ⟨by rfl, ?hy_9_11⟩) (by assumption) ?rest_9_11
            case hy_9_11 => (intro w hSw; (try dsimp only at hSw); go_simp; (try (with_reducible rfl)))
            (try simp only [Act.put, List.setIfInBounds_toArray, List.set_cons_succ, List.set_cons_zero])
            refine wpAnyH_ready (rs := [12]) (by kernel_rfl) (by simp) ?_
            refine AllReadyH.cons (o := { dst := some 24, op := Go.Op.call { callee := Go.Callee.value (Go.Operand.func 16), args := #[Go.Operand.tmp 19, Go.Operand.tmp 23], argTypes := #[43, 43] }, type := 4, pos := "ref.go:165", after := #[{ on := 7, ground := Go.Ground.data }, { on := 11, ground := Go.Ground.data }, { on := 2, ground := Go.Ground.chain }, { on := 2, ground := Go.Ground.guard }], guard := some (2, true) }) rfl (fun K hK => ?_) AllReadyH.nil
            go_simp
            (go_at_call 16; (with_reducible refine (C1.out _).mono ?_); rintro e w1 ⟨rfl, hb1⟩; replace d0 := (hb1.cell (p := ⟨g, k * 3, none⟩) (by show g < wr.heap.size; omega)).trans d0; replace d1 := (hb1.cell (p := ⟨g, k * 3 + 1, none⟩) (by show g < wr.heap.size; omega)).trans d1; replace d2 := (hb1.cell (p := ⟨g, k * 3 + 2, none⟩) (by show g < wr.heap.size; omega)).trans d2; replace e0 := (hb1.cell (p := ⟨g, m * 3, none⟩) (by show g < wr.heap.size; omega)).trans e0; replace e1 := (hb1.cell (p := ⟨g, m * 3 + 1, none⟩) (by show g < wr.heap.size; omega)).trans e1; replace e2 := (hb1.cell (p := ⟨g, m * 3 + 2, none⟩) (by show g < wr.heap.size; omega)).trans e2; clear C1)
            (try dsimp only)
            refine hK.out _ _ ?_ (fun hHeld1 => ?_)
            · (try dsimp only); first | assumption | go_keep
            clear hK K hHeld0
            (try simp only [Act.put, List.setIfInBounds_toArray, List.set_cons_succ, List.set_cons_zero])
            refine wpAnyH_take (i := 13) (oi := { dst := some 25, op := Go.Op.pick (Go.Operand.tmp 14) (Go.Operand.tmp 24) (Go.Operand.const (Go.Value.bool false)), type := 4, pos := "ref.go:165", after := #[{ on := 2, ground := Go.Ground.data }, { on := 12, ground := Go.Ground.data }], guard := none }) (v := ?v_9_13) rfl (by kernel_rfl) (by kernel_rfl) (by kernel_rfl) (fun _ _ _ h => h) (Or.inl ⟨by rfl, ?hy_9_13⟩) (by assumption) ?rest_9_13
            case hy_9_13 => (intro w hSw; (try dsimp only at hSw); go_simp; (try (with_reducible rfl)))
            (try simp only [Act.put, List.setIfInBounds_toArray, List.set_cons_succ, List.set_cons_zero])
            refine wpAnyH_done (by kernel_rfl) ?_ _
            go_wp2_with fail
            go_roundw
            case rel => exact ⟨k + 1, by omega, by go_num, by rw [HN.out, HS.out, HTT.out]; exact congrArg Value.string (by apply ByteArray.ext; simp), (hb.drew).trans (hb1.mono hb.size)⟩
            case measure => simp [intOf]; omega
          · have HTT := Lib.hid hT
            have hki' : ki = 1 := by omega
            subst hki'
            clear hki h0 hT hTl
            have C1 : Hid (∀ W : World, Calls Try.prog 16 #[.agg #[.int .i64 ki2, .int .i64 ps2, .string tx2], .agg #[.int .i64 1, .int .i64 ps, .string ⟨tx.toArray⟩]] W fun e w' => e = .returned (.bool true) ∧ Below W.heap.size W w') := fun W => by have := refSpace_any ki2 1 ps2 ps tx2 ⟨tx.toArray⟩ W; rw [hspace] at this; exact this
            clear hspace
            go_wp2_with fail
            refine wp_region_held_drew (S := fun w' => w'.cell? ⟨g, k * 3, none⟩ = some (.int .i64 1) ∧ w'.cell? ⟨g, k * 3 + 1, none⟩ = some (.int .i64 ps) ∧ w'.cell? ⟨g, k * 3 + 2, none⟩ = some (.string ⟨tx.toArray⟩) ∧ w'.cell? ⟨g, m * 3, none⟩ = some (.int .i64 ki2) ∧ w'.cell? ⟨g, m * 3 + 1, none⟩ = some (.int .i64 ps2) ∧ w'.cell? ⟨g, m * 3 + 2, none⟩ = some (.string tx2)) (by kernel_rfl) ?_ (fun hHeld0 => ?_)
            · first | assumption | go_keep
            refine wpAnyH_take (i := 0) (oi := { dst := some 12, op := Go.Op.move (Go.Operand.tmp 4), type := 3, pos := "ref.go:165", after := #[], guard := none }) (v := ?v_10_0) rfl (by kernel_rfl) (by kernel_rfl) (by kernel_rfl) (fun _ _ _ h => h) (Or.inl ⟨by rfl, ?hy_10_0⟩) (by assumption) ?rest_10_0
            case hy_10_0 => (intro w hSw; (try dsimp only at hSw); go_simp; (try (with_reducible rfl)))
            (try simp only [Act.put, List.setIfInBounds_toArray, List.set_cons_succ, List.set_cons_zero])
            refine wpAnyH_take (i := 1) (oi := { dst := some 13, op := Go.Op.binOp Go.BinOp.gtr 3 (Go.Operand.tmp 12) (Go.Operand.const (Go.Value.int Go.IntKind.i64 0)) 3, type := 4, pos := "ref.go:165", after := #[{ on := 0, ground := Go.Ground.data }], guard := none }) (v := ?v_10_1) rfl (by kernel_rfl) (by kernel_rfl) (by kernel_rfl) (fun _ _ _ h => h) (Or.inl ⟨by rfl, ?hy_10_1⟩) (by assumption) ?rest_10_1
            case hy_10_1 => (intro w hSw; (try dsimp only at hSw); go_simp; (try (with_reducible rfl)))
            (try simp only [Act.put, List.setIfInBounds_toArray, List.set_cons_succ, List.set_cons_zero])
            refine wpAnyH_take (i := 2) (oi := { dst := some 14, op := Go.Op.move (Go.Operand.tmp 13), type := 4, pos := "ref.go:165", after := #[{ on := 1, ground := Go.Ground.data }], guard := none }) (v := ?v_10_2) rfl (by kernel_rfl) (by kernel_rfl) (by kernel_rfl) (fun _ _ _ h => h) (Or.inl ⟨by rfl, ?hy_10_2⟩) (by assumption) ?rest_10_2
            case hy_10_2 => (intro w hSw; (try dsimp only at hSw); go_simp; (try (with_reducible rfl)))
            (try simp only [Act.put, List.setIfInBounds_toArray, List.set_cons_succ, List.set_cons_zero])
            refine wpAnyH_take (i := 3) (oi := { dst := some 15, op := Go.Op.move (Go.Operand.tmp 0), type := 27, pos := "ref.go:165", after := #[{ on := 2, ground := Go.Ground.guard }], guard := some (2, true) }) (v := ?v_10_3) rfl (by kernel_rfl) (by kernel_rfl) (by kernel_rfl) (fun _ _ _ h => h) (Or.inl ⟨by rfl, ?hy_10_3⟩) (by assumption) ?rest_10_3
            case hy_10_3 => (intro w hSw; (try dsimp only at hSw); go_simp; (try (with_reducible rfl)))
            (try simp only [Act.put, List.setIfInBounds_toArray, List.set_cons_succ, List.set_cons_zero])
            refine wpAnyH_take (i := 4) (oi := { dst := some 16, op := Go.Op.move (Go.Operand.tmp 4), type := 3, pos := "ref.go:165", after := #[{ on := 2, ground := Go.Ground.guard }], guard := some (2, true) }) (v := ?v_10_4) rfl (by kernel_rfl) (by kernel_rfl) (by kernel_rfl) (fun _ _ _ h => h) (Or.inl ⟨by rfl, ?hy_10_4⟩) (by assumption) ?rest_10_4
            case hy_10_4 => (intro w hSw; (try dsimp only at hSw); go_simp; (try (with_reducible rfl)))
            (try simp only [Act.put, List.setIfInBounds_toArray, List.set_cons_succ, List.set_cons_zero])
            refine wpAnyH_take (i := 5) (oi := { dst := some 17, op := Go.Op.binOp Go.BinOp.sub 3 (Go.Operand.tmp 16) (Go.Operand.const (Go.Value.int Go.IntKind.i64 1)) 3, type := 3, pos := "ref.go:165", after := #[{ on := 4, ground := Go.Ground.data }, { on := 2, ground := Go.Ground.guard }], guard := some (2, true) }) (v := ?v_10_5) rfl (by kernel_rfl) (by kernel_rfl) (by kernel_rfl) (fun _ _ _ h => h) (Or.inl ⟨by rfl, ?hy_10_5⟩) (by assumption) ?rest_10_5
            case hy_10_5 => (intro w hSw; (try dsimp only at hSw); go_simp; (try (with_reducible rfl)))
            (try simp only [Act.put, List.setIfInBounds_toArray, List.set_cons_succ, List.set_cons_zero])
            refine wpAnyH_take (i := 6) (oi := { dst := some 18, op := Go.Op.indexAddr 27 (Go.Operand.tmp 15) (Go.Operand.tmp 17), type := 0, pos := "ref.go:165", after := #[{ on := 3, ground := Go.Ground.data }, { on := 5, ground := Go.Ground.data }, { on := 2, ground := Go.Ground.guard }], guard := some (2, true) }) (v := ?v_10_6) rfl (by kernel_rfl) (by kernel_rfl) (by kernel_rfl) (fun _ _ _ h => h) (Or.inl ⟨by rfl, ?hy_10_6⟩) (by assumption) ?rest_10_6
            case hy_10_6 => (intro w hSw; (try dsimp only at hSw); go_simp; (try (with_reducible rfl)))
            (try simp only [Act.put, List.setIfInBounds_toArray, List.set_cons_succ, List.set_cons_zero])
            refine wpAnyH_take (i := 7) (oi := { dst := some 19, op := Go.Op.load 43 (Go.Operand.tmp 18), type := 43, pos := "ref.go:165", after := #[{ on := 6, ground := Go.Ground.data }, { on := 2, ground := Go.Ground.guard }], guard := some (2, true) }) (v := ?v_10_7) rfl (by kernel_rfl) (by kernel_rfl) (by kernel_rfl) (fun _ _ _ h => h) (Or.inl ⟨by rfl, ?hy_10_7⟩) (by assumption) ?rest_10_7
            case hy_10_7 => (intro w hSw; (try dsimp only at hSw); go_simp; (try (with_reducible rfl)))
            (try simp only [Act.put, List.setIfInBounds_toArray, List.set_cons_succ, List.set_cons_zero])
            refine wpAnyH_take (i := 8) (oi := { dst := some 20, op := Go.Op.move (Go.Operand.tmp 0), type := 27, pos := "ref.go:165", after := #[{ on := 2, ground := Go.Ground.guard }], guard := some (2, true) }) (v := ?v_10_8) rfl (by kernel_rfl) (by kernel_rfl) (by kernel_rfl) (fun _ _ _ h => h) (Or.inl ⟨by rfl, ?hy_10_8⟩) (by assumption) ?rest_10_8
            case hy_10_8 => (intro w hSw; (try dsimp only at hSw); go_simp; (try (with_reducible rfl)))
            (try simp only [Act.put, List.setIfInBounds_toArray, List.set_cons_succ, List.set_cons_zero])
            refine wpAnyH_take (i := 9) (oi := { dst := some 21, op := Go.Op.move (Go.Operand.tmp 4), type := 3, pos := "ref.go:165", after := #[{ on := 2, ground := Go.Ground.guard }], guard := some (2, true) }) (v := ?v_10_9) rfl (by kernel_rfl) (by kernel_rfl) (by kernel_rfl) (fun _ _ _ h => h) (Or.inl ⟨by rfl, ?hy_10_9⟩) (by assumption) ?rest_10_9
            case hy_10_9 => (intro w hSw; (try dsimp only at hSw); go_simp; (try (with_reducible rfl)))
            (try simp only [Act.put, List.setIfInBounds_toArray, List.set_cons_succ, List.set_cons_zero])
            refine wpAnyH_take (i := 10) (oi := { dst := some 22, op := Go.Op.indexAddr 27 (Go.Operand.tmp 20) (Go.Operand.tmp 21), type := 0, pos := "ref.go:165", after := #[{ on := 8, ground := Go.Ground.data }, { on := 9, ground := Go.Ground.data }, { on := 2, ground := Go.Ground.guard }], guard := some (2, true) }) (v := ?v_10_10) rfl (by kernel_rfl) (by kernel_rfl) (by kernel_rfl) (fun _ _ _ h => h) (Or.inl ⟨by rfl, ?hy_10_10⟩) (by assumption) ?rest_10_10
            case hy_10_10 => (intro w hSw; (try dsimp only at hSw); go_simp; (try (with_reducible rfl)))
            (try simp only [Act.put, List.setIfInBounds_toArray, List.set_cons_succ, List.set_cons_zero])
            refine wpAnyH_take (i := 11) (oi := { dst := some 23, op := Go.Op.load 43 (Go.Operand.tmp 22), type := 43, pos := "ref.go:165", after := #[{ on := 10, ground := Go.Ground.data }, { on := 2, ground := Go.Ground.guard }], guard := some (2, true) }) (v := ?v_10_11) rfl (by kernel_rfl) (by kernel_rfl) (by kernel_rfl) (fun _ _ _ h => h) (Or.inl ⟨by rfl, ?hy_10_11⟩) (by assumption) ?rest_10_11
            case hy_10_11 => (intro w hSw; (try dsimp only at hSw); go_simp; (try (with_reducible rfl)))
            (try simp only [Act.put, List.setIfInBounds_toArray, List.set_cons_succ, List.set_cons_zero])
            refine wpAnyH_ready (rs := [12]) (by kernel_rfl) (by simp) ?_
            refine AllReadyH.cons (o := { dst := some 24, op := Go.Op.call { callee := Go.Callee.value (Go.Operand.func 16), args := #[Go.Operand.tmp 19, Go.Operand.tmp 23], argTypes := #[43, 43] }, type := 4, pos := "ref.go:165", after := #[{ on := 7, ground := Go.Ground.data }, { on := 11, ground := Go.Ground.data }, { on := 2, ground := Go.Ground.chain }, { on := 2, ground := Go.Ground.guard }], guard := some (2, true) }) rfl (fun K hK => ?_) AllReadyH.nil
            go_simp
            (go_at_call 16; (with_reducible refine (C1.out _).mono ?_); rintro e w1 ⟨rfl, hb1⟩; replace d0 := (hb1.cell (p := ⟨g, k * 3, none⟩) (by show g < wr.heap.size; omega)).trans d0; replace d1 := (hb1.cell (p := ⟨g, k * 3 + 1, none⟩) (by show g < wr.heap.size; omega)).trans d1; replace d2 := (hb1.cell (p := ⟨g, k * 3 + 2, none⟩) (by show g < wr.heap.size; omega)).trans d2; replace e0 := (hb1.cell (p := ⟨g, m * 3, none⟩) (by show g < wr.heap.size; omega)).trans e0; replace e1 := (hb1.cell (p := ⟨g, m * 3 + 1, none⟩) (by show g < wr.heap.size; omega)).trans e1; replace e2 := (hb1.cell (p := ⟨g, m * 3 + 2, none⟩) (by show g < wr.heap.size; omega)).trans e2; clear C1)
            (try dsimp only)
            refine hK.out _ _ ?_ (fun hHeld1 => ?_)
            · (try dsimp only); first | assumption | go_keep
            clear hK K hHeld0
            (try simp only [Act.put, List.setIfInBounds_toArray, List.set_cons_succ, List.set_cons_zero])
            refine wpAnyH_take (i := 13) (oi := { dst := some 25, op := Go.Op.pick (Go.Operand.tmp 14) (Go.Operand.tmp 24) (Go.Operand.const (Go.Value.bool false)), type := 4, pos := "ref.go:165", after := #[{ on := 2, ground := Go.Ground.data }, { on := 12, ground := Go.Ground.data }], guard := none }) (v := ?v_10_13) rfl (by kernel_rfl) (by kernel_rfl) (by kernel_rfl) (fun _ _ _ h => h) (Or.inl ⟨by rfl, ?hy_10_13⟩) (by assumption) ?rest_10_13
            case hy_10_13 => (intro w hSw; (try dsimp only at hSw); go_simp; (try (with_reducible rfl)))
            (try simp only [Act.put, List.setIfInBounds_toArray, List.set_cons_succ, List.set_cons_zero])
            refine wpAnyH_done (by kernel_rfl) ?_ _
            go_wp2_with fail
            go_roundw
            case rel => exact ⟨k + 1, by omega, by go_num, by rw [HN.out, HS.out, HTT.out]; exact congrArg Value.string (by apply ByteArray.ext; simp), (hb.drew).trans (hb1.mono hb.size)⟩
            case measure => simp [intOf]; omega
          · have HTT := Lib.hid hT
            have hki' : ki = 3 := by omega
            subst hki'
            have htl : tx.length ≤ 10000 := by rw [hT] at hTl; simp at hTl; omega
            clear hki h0 hT hTl
            have C1 : Hid (∀ W : World, Calls Try.prog 16 #[.agg #[.int .i64 ki2, .int .i64 ps2, .string tx2], .agg #[.int .i64 3, .int .i64 ps, .string ⟨tx.toArray⟩]] W fun e w' => e = .returned (.bool true) ∧ Below W.heap.size W w') := fun W => by have := refSpace_any ki2 3 ps2 ps tx2 ⟨tx.toArray⟩ W; rw [hspace] at this; exact this
            clear hspace
            go_wp2_with fail
            refine wp_region_held_drew (S := fun w' => w'.cell? ⟨g, k * 3, none⟩ = some (.int .i64 3) ∧ w'.cell? ⟨g, k * 3 + 1, none⟩ = some (.int .i64 ps) ∧ w'.cell? ⟨g, k * 3 + 2, none⟩ = some (.string ⟨tx.toArray⟩) ∧ w'.cell? ⟨g, m * 3, none⟩ = some (.int .i64 ki2) ∧ w'.cell? ⟨g, m * 3 + 1, none⟩ = some (.int .i64 ps2) ∧ w'.cell? ⟨g, m * 3 + 2, none⟩ = some (.string tx2)) (by kernel_rfl) ?_ (fun hHeld0 => ?_)
            · first | assumption | go_keep
            refine wpAnyH_take (i := 0) (oi := { dst := some 12, op := Go.Op.move (Go.Operand.tmp 4), type := 3, pos := "ref.go:165", after := #[], guard := none }) (v := ?v_11_0) rfl (by kernel_rfl) (by kernel_rfl) (by kernel_rfl) (fun _ _ _ h => h) (Or.inl ⟨by rfl, ?hy_11_0⟩) (by assumption) ?rest_11_0
            case hy_11_0 => (intro w hSw; (try dsimp only at hSw); go_simp; (try (with_reducible rfl)))
            (try simp only [Act.put, List.setIfInBounds_toArray, List.set_cons_succ, List.set_cons_zero])
            refine wpAnyH_take (i := 1) (oi := { dst := some 13, op := Go.Op.binOp Go.BinOp.gtr 3 (Go.Operand.tmp 12) (Go.Operand.const (Go.Value.int Go.IntKind.i64 0)) 3, type := 4, pos := "ref.go:165", after := #[{ on := 0, ground := Go.Ground.data }], guard := none }) (v := ?v_11_1) rfl (by kernel_rfl) (by kernel_rfl) (by kernel_rfl) (fun _ _ _ h => h) (Or.inl ⟨by rfl, ?hy_11_1⟩) (by assumption) ?rest_11_1
            case hy_11_1 => (intro w hSw; (try dsimp only at hSw); go_simp; (try (with_reducible rfl)))
            (try simp only [Act.put, List.setIfInBounds_toArray, List.set_cons_succ, List.set_cons_zero])
            refine wpAnyH_take (i := 2) (oi := { dst := some 14, op := Go.Op.move (Go.Operand.tmp 13), type := 4, pos := "ref.go:165", after := #[{ on := 1, ground := Go.Ground.data }], guard := none }) (v := ?v_11_2) rfl (by kernel_rfl) (by kernel_rfl) (by kernel_rfl) (fun _ _ _ h => h) (Or.inl ⟨by rfl, ?hy_11_2⟩) (by assumption) ?rest_11_2
            case hy_11_2 => (intro w hSw; (try dsimp only at hSw); go_simp; (try (with_reducible rfl)))
            (try simp only [Act.put, List.setIfInBounds_toArray, List.set_cons_succ, List.set_cons_zero])
            refine wpAnyH_take (i := 3) (oi := { dst := some 15, op := Go.Op.move (Go.Operand.tmp 0), type := 27, pos := "ref.go:165", after := #[{ on := 2, ground := Go.Ground.guard }], guard := some (2, true) }) (v := ?v_11_3) rfl (by kernel_rfl) (by kernel_rfl) (by kernel_rfl) (fun _ _ _ h => h) (Or.inl ⟨by rfl, ?hy_11_3⟩) (by assumption) ?rest_11_3
            case hy_11_3 => (intro w hSw; (try dsimp only at hSw); go_simp; (try (with_reducible rfl)))
            (try simp only [Act.put, List.setIfInBounds_toArray, List.set_cons_succ, List.set_cons_zero])
            refine wpAnyH_take (i := 4) (oi := { dst := some 16, op := Go.Op.move (Go.Operand.tmp 4), type := 3, pos := "ref.go:165", after := #[{ on := 2, ground := Go.Ground.guard }], guard := some (2, true) }) (v := ?v_11_4) rfl (by kernel_rfl) (by kernel_rfl) (by kernel_rfl) (fun _ _ _ h => h) (Or.inl ⟨by rfl, ?hy_11_4⟩) (by assumption) ?rest_11_4
            case hy_11_4 => (intro w hSw; (try dsimp only at hSw); go_simp; (try (with_reducible rfl)))
            (try simp only [Act.put, List.setIfInBounds_toArray, List.set_cons_succ, List.set_cons_zero])
            refine wpAnyH_take (i := 5) (oi := { dst := some 17, op := Go.Op.binOp Go.BinOp.sub 3 (Go.Operand.tmp 16) (Go.Operand.const (Go.Value.int Go.IntKind.i64 1)) 3, type := 3, pos := "ref.go:165", after := #[{ on := 4, ground := Go.Ground.data }, { on := 2, ground := Go.Ground.guard }], guard := some (2, true) }) (v := ?v_11_5) rfl (by kernel_rfl) (by kernel_rfl) (by kernel_rfl) (fun _ _ _ h => h) (Or.inl ⟨by rfl, ?hy_11_5⟩) (by assumption) ?rest_11_5
            case hy_11_5 => (intro w hSw; (try dsimp only at hSw); go_simp; (try (with_reducible rfl)))
            (try simp only [Act.put, List.setIfInBounds_toArray, List.set_cons_succ, List.set_cons_zero])
            refine wpAnyH_take (i := 6) (oi := { dst := some 18, op := Go.Op.indexAddr 27 (Go.Operand.tmp 15) (Go.Operand.tmp 17), type := 0, pos := "ref.go:165", after := #[{ on := 3, ground := Go.Ground.data }, { on := 5, ground := Go.Ground.data }, { on := 2, ground := Go.Ground.guard }], guard := some (2, true) }) (v := ?v_11_6) rfl (by kernel_rfl) (by kernel_rfl) (by kernel_rfl) (fun _ _ _ h => h) (Or.inl ⟨by rfl, ?hy_11_6⟩) (by assumption) ?rest_11_6
            case hy_11_6 => (intro w hSw; (try dsimp only at hSw); go_simp; (try (with_reducible rfl)))
            (try simp only [Act.put, List.setIfInBounds_toArray, List.set_cons_succ, List.set_cons_zero])
            refine wpAnyH_take (i := 7) (oi := { dst := some 19, op := Go.Op.load 43 (Go.Operand.tmp 18), type := 43, pos := "ref.go:165", after := #[{ on := 6, ground := Go.Ground.data }, { on := 2, ground := Go.Ground.guard }], guard := some (2, true) }) (v := ?v_11_7) rfl (by kernel_rfl) (by kernel_rfl) (by kernel_rfl) (fun _ _ _ h => h) (Or.inl ⟨by rfl, ?hy_11_7⟩) (by assumption) ?rest_11_7
            case hy_11_7 => (intro w hSw; (try dsimp only at hSw); go_simp; (try (with_reducible rfl)))
            (try simp only [Act.put, List.setIfInBounds_toArray, List.set_cons_succ, List.set_cons_zero])
            refine wpAnyH_take (i := 8) (oi := { dst := some 20, op := Go.Op.move (Go.Operand.tmp 0), type := 27, pos := "ref.go:165", after := #[{ on := 2, ground := Go.Ground.guard }], guard := some (2, true) }) (v := ?v_11_8) rfl (by kernel_rfl) (by kernel_rfl) (by kernel_rfl) (fun _ _ _ h => h) (Or.inl ⟨by rfl, ?hy_11_8⟩) (by assumption) ?rest_11_8
            case hy_11_8 => (intro w hSw; (try dsimp only at hSw); go_simp; (try (with_reducible rfl)))
            (try simp only [Act.put, List.setIfInBounds_toArray, List.set_cons_succ, List.set_cons_zero])
            refine wpAnyH_take (i := 9) (oi := { dst := some 21, op := Go.Op.move (Go.Operand.tmp 4), type := 3, pos := "ref.go:165", after := #[{ on := 2, ground := Go.Ground.guard }], guard := some (2, true) }) (v := ?v_11_9) rfl (by kernel_rfl) (by kernel_rfl) (by kernel_rfl) (fun _ _ _ h => h) (Or.inl ⟨by rfl, ?hy_11_9⟩) (by assumption) ?rest_11_9
            case hy_11_9 => (intro w hSw; (try dsimp only at hSw); go_simp; (try (with_reducible rfl)))
            (try simp only [Act.put, List.setIfInBounds_toArray, List.set_cons_succ, List.set_cons_zero])
            refine wpAnyH_take (i := 10) (oi := { dst := some 22, op := Go.Op.indexAddr 27 (Go.Operand.tmp 20) (Go.Operand.tmp 21), type := 0, pos := "ref.go:165", after := #[{ on := 8, ground := Go.Ground.data }, { on := 9, ground := Go.Ground.data }, { on := 2, ground := Go.Ground.guard }], guard := some (2, true) }) (v := ?v_11_10) rfl (by kernel_rfl) (by kernel_rfl) (by kernel_rfl) (fun _ _ _ h => h) (Or.inl ⟨by rfl, ?hy_11_10⟩) (by assumption) ?rest_11_10
            case hy_11_10 => (intro w hSw; (try dsimp only at hSw); go_simp; (try (with_reducible rfl)))
            (try simp only [Act.put, List.setIfInBounds_toArray, List.set_cons_succ, List.set_cons_zero])
            refine wpAnyH_take (i := 11) (oi := { dst := some 23, op := Go.Op.load 43 (Go.Operand.tmp 22), type := 43, pos := "ref.go:165", after := #[{ on := 10, ground := Go.Ground.data }, { on := 2, ground := Go.Ground.guard }], guard := some (2, true) }) (v := ?v_11_11) rfl (by kernel_rfl) (by kernel_rfl) (by kernel_rfl) (fun _ _ _ h => h) (Or.inl ⟨by rfl, ?hy_11_11⟩) (by assumption) ?rest_11_11
            case hy_11_11 => (intro w hSw; (try dsimp only at hSw); go_simp; (try (with_reducible rfl)))
            (try simp only [Act.put, List.setIfInBounds_toArray, List.set_cons_succ, List.set_cons_zero])
            refine wpAnyH_ready (rs := [12]) (by kernel_rfl) (by simp) ?_
            refine AllReadyH.cons (o := { dst := some 24, op := Go.Op.call { callee := Go.Callee.value (Go.Operand.func 16), args := #[Go.Operand.tmp 19, Go.Operand.tmp 23], argTypes := #[43, 43] }, type := 4, pos := "ref.go:165", after := #[{ on := 7, ground := Go.Ground.data }, { on := 11, ground := Go.Ground.data }, { on := 2, ground := Go.Ground.chain }, { on := 2, ground := Go.Ground.guard }], guard := some (2, true) }) rfl (fun K hK => ?_) AllReadyH.nil
            go_simp
            (go_at_call 16; (with_reducible refine (C1.out _).mono ?_); rintro e w1 ⟨rfl, hb1⟩; replace d0 := (hb1.cell (p := ⟨g, k * 3, none⟩) (by show g < wr.heap.size; omega)).trans d0; replace d1 := (hb1.cell (p := ⟨g, k * 3 + 1, none⟩) (by show g < wr.heap.size; omega)).trans d1; replace d2 := (hb1.cell (p := ⟨g, k * 3 + 2, none⟩) (by show g < wr.heap.size; omega)).trans d2; replace e0 := (hb1.cell (p := ⟨g, m * 3, none⟩) (by show g < wr.heap.size; omega)).trans e0; replace e1 := (hb1.cell (p := ⟨g, m * 3 + 1, none⟩) (by show g < wr.heap.size; omega)).trans e1; replace e2 := (hb1.cell (p := ⟨g, m * 3 + 2, none⟩) (by show g < wr.heap.size; omega)).trans e2; clear C1)
            (try dsimp only)
            refine hK.out _ _ ?_ (fun hHeld1 => ?_)
            · (try dsimp only); first | assumption | go_keep
            clear hK K hHeld0
            (try simp only [Act.put, List.setIfInBounds_toArray, List.set_cons_succ, List.set_cons_zero])
            refine wpAnyH_take (i := 13) (oi := { dst := some 25, op := Go.Op.pick (Go.Operand.tmp 14) (Go.Operand.tmp 24) (Go.Operand.const (Go.Value.bool false)), type := 4, pos := "ref.go:165", after := #[{ on := 2, ground := Go.Ground.data }, { on := 12, ground := Go.Ground.data }], guard := none }) (v := ?v_11_13) rfl (by kernel_rfl) (by kernel_rfl) (by kernel_rfl) (fun _ _ _ h => h) (Or.inl ⟨by rfl, ?hy_11_13⟩) (by assumption) ?rest_11_13
            case hy_11_13 => (intro w hSw; (try dsimp only at hSw); go_simp; (try (with_reducible rfl)))
            (try simp only [Act.put, List.setIfInBounds_toArray, List.set_cons_succ, List.set_cons_zero])
            refine wpAnyH_done (by kernel_rfl) ?_ _
            go_wp2_with fail
            go_roundw
            case rel => exact ⟨k + 1, by omega, by go_num, by rw [HN.out, HS.out, HTT.out]; exact congrArg Value.string (by apply ByteArray.ext; simp), (hb.drew).trans (hb1.mono hb.size)⟩
            case measure => simp [intOf]; omega
          · have HTT := Lib.hid hT
            have g0 : (ki == 0) = false := by simpa using (by omega : ¬ ki = 0)
            have g1 : (ki == 1) = false := by simpa using (by omega : ¬ ki = 1)
            have g3 : (ki == 3) = false := by simpa using (by omega : ¬ ki = 3)
            have htl : tx.length ≤ 10000 := by rw [hT] at hTl; omega
            clear hki h0 hT hTl h1 h3
            have C1 : Hid (∀ W : World, Calls Try.prog 16 #[.agg #[.int .i64 ki2, .int .i64 ps2, .string tx2], .agg #[.int .i64 ki, .int .i64 ps, .string ⟨tx.toArray⟩]] W fun e w' => e = .returned (.bool true) ∧ Below W.heap.size W w') := fun W => by have := refSpace_any ki2 ki ps2 ps tx2 ⟨tx.toArray⟩ W; rw [hspace] at this; exact this
            clear hspace
            go_wp2_with fail
            refine wp_region_held_drew (S := fun w' => w'.cell? ⟨g, k * 3, none⟩ = some (.int .i64 ki) ∧ w'.cell? ⟨g, k * 3 + 1, none⟩ = some (.int .i64 ps) ∧ w'.cell? ⟨g, k * 3 + 2, none⟩ = some (.string ⟨tx.toArray⟩) ∧ w'.cell? ⟨g, m * 3, none⟩ = some (.int .i64 ki2) ∧ w'.cell? ⟨g, m * 3 + 1, none⟩ = some (.int .i64 ps2) ∧ w'.cell? ⟨g, m * 3 + 2, none⟩ = some (.string tx2)) (by kernel_rfl) ?_ (fun hHeld0 => ?_)
            · first | assumption | go_keep
            refine wpAnyH_take (i := 0) (oi := { dst := some 12, op := Go.Op.move (Go.Operand.tmp 4), type := 3, pos := "ref.go:165", after := #[], guard := none }) (v := ?v_12_0) rfl (by kernel_rfl) (by kernel_rfl) (by kernel_rfl) (fun _ _ _ h => h) (Or.inl ⟨by rfl, ?hy_12_0⟩) (by assumption) ?rest_12_0
            case hy_12_0 => (intro w hSw; (try dsimp only at hSw); go_simp; (try (with_reducible rfl)))
            (try simp only [Act.put, List.setIfInBounds_toArray, List.set_cons_succ, List.set_cons_zero])
            refine wpAnyH_take (i := 1) (oi := { dst := some 13, op := Go.Op.binOp Go.BinOp.gtr 3 (Go.Operand.tmp 12) (Go.Operand.const (Go.Value.int Go.IntKind.i64 0)) 3, type := 4, pos := "ref.go:165", after := #[{ on := 0, ground := Go.Ground.data }], guard := none }) (v := ?v_12_1) rfl (by kernel_rfl) (by kernel_rfl) (by kernel_rfl) (fun _ _ _ h => h) (Or.inl ⟨by rfl, ?hy_12_1⟩) (by assumption) ?rest_12_1
            case hy_12_1 => (intro w hSw; (try dsimp only at hSw); go_simp; (try (with_reducible rfl)))
            (try simp only [Act.put, List.setIfInBounds_toArray, List.set_cons_succ, List.set_cons_zero])
            refine wpAnyH_take (i := 2) (oi := { dst := some 14, op := Go.Op.move (Go.Operand.tmp 13), type := 4, pos := "ref.go:165", after := #[{ on := 1, ground := Go.Ground.data }], guard := none }) (v := ?v_12_2) rfl (by kernel_rfl) (by kernel_rfl) (by kernel_rfl) (fun _ _ _ h => h) (Or.inl ⟨by rfl, ?hy_12_2⟩) (by assumption) ?rest_12_2
            case hy_12_2 => (intro w hSw; (try dsimp only at hSw); go_simp; (try (with_reducible rfl)))
            (try simp only [Act.put, List.setIfInBounds_toArray, List.set_cons_succ, List.set_cons_zero])
            refine wpAnyH_take (i := 3) (oi := { dst := some 15, op := Go.Op.move (Go.Operand.tmp 0), type := 27, pos := "ref.go:165", after := #[{ on := 2, ground := Go.Ground.guard }], guard := some (2, true) }) (v := ?v_12_3) rfl (by kernel_rfl) (by kernel_rfl) (by kernel_rfl) (fun _ _ _ h => h) (Or.inl ⟨by rfl, ?hy_12_3⟩) (by assumption) ?rest_12_3
            case hy_12_3 => (intro w hSw; (try dsimp only at hSw); go_simp; (try (with_reducible rfl)))
            (try simp only [Act.put, List.setIfInBounds_toArray, List.set_cons_succ, List.set_cons_zero])
            refine wpAnyH_take (i := 4) (oi := { dst := some 16, op := Go.Op.move (Go.Operand.tmp 4), type := 3, pos := "ref.go:165", after := #[{ on := 2, ground := Go.Ground.guard }], guard := some (2, true) }) (v := ?v_12_4) rfl (by kernel_rfl) (by kernel_rfl) (by kernel_rfl) (fun _ _ _ h => h) (Or.inl ⟨by rfl, ?hy_12_4⟩) (by assumption) ?rest_12_4
            case hy_12_4 => (intro w hSw; (try dsimp only at hSw); go_simp; (try (with_reducible rfl)))
            (try simp only [Act.put, List.setIfInBounds_toArray, List.set_cons_succ, List.set_cons_zero])
            refine wpAnyH_take (i := 5) (oi := { dst := some 17, op := Go.Op.binOp Go.BinOp.sub 3 (Go.Operand.tmp 16) (Go.Operand.const (Go.Value.int Go.IntKind.i64 1)) 3, type := 3, pos := "ref.go:165", after := #[{ on := 4, ground := Go.Ground.data }, { on := 2, ground := Go.Ground.guard }], guard := some (2, true) }) (v := ?v_12_5) rfl (by kernel_rfl) (by kernel_rfl) (by kernel_rfl) (fun _ _ _ h => h) (Or.inl ⟨by rfl, ?hy_12_5⟩) (by assumption) ?rest_12_5
            case hy_12_5 => (intro w hSw; (try dsimp only at hSw); go_simp; (try (with_reducible rfl)))
            (try simp only [Act.put, List.setIfInBounds_toArray, List.set_cons_succ, List.set_cons_zero])
            refine wpAnyH_take (i := 6) (oi := { dst := some 18, op := Go.Op.indexAddr 27 (Go.Operand.tmp 15) (Go.Operand.tmp 17), type := 0, pos := "ref.go:165", after := #[{ on := 3, ground := Go.Ground.data }, { on := 5, ground := Go.Ground.data }, { on := 2, ground := Go.Ground.guard }], guard := some (2, true) }) (v := ?v_12_6) rfl (by kernel_rfl) (by kernel_rfl) (by kernel_rfl) (fun _ _ _ h => h) (Or.inl ⟨by rfl, ?hy_12_6⟩) (by assumption) ?rest_12_6
            case hy_12_6 => (intro w hSw; (try dsimp only at hSw); go_simp; (try (with_reducible rfl)))
            (try simp only [Act.put, List.setIfInBounds_toArray, List.set_cons_succ, List.set_cons_zero])
            refine wpAnyH_take (i := 7) (oi := { dst := some 19, op := Go.Op.load 43 (Go.Operand.tmp 18), type := 43, pos := "ref.go:165", after := #[{ on := 6, ground := Go.Ground.data }, { on := 2, ground := Go.Ground.guard }], guard := some (2, true) }) (v := ?v_12_7) rfl (by kernel_rfl) (by kernel_rfl) (by kernel_rfl) (fun _ _ _ h => h) (Or.inl ⟨by rfl, ?hy_12_7⟩) (by assumption) ?rest_12_7
            case hy_12_7 => (intro w hSw; (try dsimp only at hSw); go_simp; (try (with_reducible rfl)))
            (try simp only [Act.put, List.setIfInBounds_toArray, List.set_cons_succ, List.set_cons_zero])
            refine wpAnyH_take (i := 8) (oi := { dst := some 20, op := Go.Op.move (Go.Operand.tmp 0), type := 27, pos := "ref.go:165", after := #[{ on := 2, ground := Go.Ground.guard }], guard := some (2, true) }) (v := ?v_12_8) rfl (by kernel_rfl) (by kernel_rfl) (by kernel_rfl) (fun _ _ _ h => h) (Or.inl ⟨by rfl, ?hy_12_8⟩) (by assumption) ?rest_12_8
            case hy_12_8 => (intro w hSw; (try dsimp only at hSw); go_simp; (try (with_reducible rfl)))
            (try simp only [Act.put, List.setIfInBounds_toArray, List.set_cons_succ, List.set_cons_zero])
            refine wpAnyH_take (i := 9) (oi := { dst := some 21, op := Go.Op.move (Go.Operand.tmp 4), type := 3, pos := "ref.go:165", after := #[{ on := 2, ground := Go.Ground.guard }], guard := some (2, true) }) (v := ?v_12_9) rfl (by kernel_rfl) (by kernel_rfl) (by kernel_rfl) (fun _ _ _ h => h) (Or.inl ⟨by rfl, ?hy_12_9⟩) (by assumption) ?rest_12_9
            case hy_12_9 => (intro w hSw; (try dsimp only at hSw); go_simp; (try (with_reducible rfl)))
            (try simp only [Act.put, List.setIfInBounds_toArray, List.set_cons_succ, List.set_cons_zero])
            refine wpAnyH_take (i := 10) (oi := { dst := some 22, op := Go.Op.indexAddr 27 (Go.Operand.tmp 20) (Go.Operand.tmp 21), type := 0, pos := "ref.go:165", after := #[{ on := 8, ground := Go.Ground.data }, { on := 9, ground := Go.Ground.data }, { on := 2, ground := Go.Ground.guard }], guard := some (2, true) }) (v := ?v_12_10) rfl (by kernel_rfl) (by kernel_rfl) (by kernel_rfl) (fun _ _ _ h => h) (Or.inl ⟨by rfl, ?hy_12_10⟩) (by assumption) ?rest_12_10
            case hy_12_10 => (intro w hSw; (try dsimp only at hSw); go_simp; (try (with_reducible rfl)))
            (try simp only [Act.put, List.setIfInBounds_toArray, List.set_cons_succ, List.set_cons_zero])
            refine wpAnyH_take (i := 11) (oi := { dst := some 23, op := Go.Op.load 43 (Go.Operand.tmp 22), type := 43, pos := "ref.go:165", after := #[{ on := 10, ground := Go.Ground.data }, { on := 2, ground := Go.Ground.guard }], guard := some (2, true) }) (v := ?v_12_11) rfl (by kernel_rfl) (by kernel_rfl) (by kernel_rfl) (fun _ _ _ h => h) (Or.inl ⟨by rfl, ?hy_12_11⟩) (by assumption) ?rest_12_11
            case hy_12_11 => (intro w hSw; (try dsimp only at hSw); go_simp; (try (with_reducible rfl)))
            (try simp only [Act.put, List.setIfInBounds_toArray, List.set_cons_succ, List.set_cons_zero])
            refine wpAnyH_ready (rs := [12]) (by kernel_rfl) (by simp) ?_
            refine AllReadyH.cons (o := { dst := some 24, op := Go.Op.call { callee := Go.Callee.value (Go.Operand.func 16), args := #[Go.Operand.tmp 19, Go.Operand.tmp 23], argTypes := #[43, 43] }, type := 4, pos := "ref.go:165", after := #[{ on := 7, ground := Go.Ground.data }, { on := 11, ground := Go.Ground.data }, { on := 2, ground := Go.Ground.chain }, { on := 2, ground := Go.Ground.guard }], guard := some (2, true) }) rfl (fun K hK => ?_) AllReadyH.nil
            go_simp
            (go_at_call 16; (with_reducible refine (C1.out _).mono ?_); rintro e w1 ⟨rfl, hb1⟩; replace d0 := (hb1.cell (p := ⟨g, k * 3, none⟩) (by show g < wr.heap.size; omega)).trans d0; replace d1 := (hb1.cell (p := ⟨g, k * 3 + 1, none⟩) (by show g < wr.heap.size; omega)).trans d1; replace d2 := (hb1.cell (p := ⟨g, k * 3 + 2, none⟩) (by show g < wr.heap.size; omega)).trans d2; replace e0 := (hb1.cell (p := ⟨g, m * 3, none⟩) (by show g < wr.heap.size; omega)).trans e0; replace e1 := (hb1.cell (p := ⟨g, m * 3 + 1, none⟩) (by show g < wr.heap.size; omega)).trans e1; replace e2 := (hb1.cell (p := ⟨g, m * 3 + 2, none⟩) (by show g < wr.heap.size; omega)).trans e2; clear C1)
            (try dsimp only)
            refine hK.out _ _ ?_ (fun hHeld1 => ?_)
            · (try dsimp only); first | assumption | go_keep
            clear hK K hHeld0
            (try simp only [Act.put, List.setIfInBounds_toArray, List.set_cons_succ, List.set_cons_zero])
            refine wpAnyH_take (i := 13) (oi := { dst := some 25, op := Go.Op.pick (Go.Operand.tmp 14) (Go.Operand.tmp 24) (Go.Operand.const (Go.Value.bool false)), type := 4, pos := "ref.go:165", after := #[{ on := 2, ground := Go.Ground.data }, { on := 12, ground := Go.Ground.data }], guard := none }) (v := ?v_12_13) rfl (by kernel_rfl) (by kernel_rfl) (by kernel_rfl) (fun _ _ _ h => h) (Or.inl ⟨by rfl, ?hy_12_13⟩) (by assumption) ?rest_12_13
            case hy_12_13 => (intro w hSw; (try dsimp only at hSw); go_simp; (try (with_reducible rfl)))
            (try simp only [Act.put, List.setIfInBounds_toArray, List.set_cons_succ, List.set_cons_zero])
            refine wpAnyH_done (by kernel_rfl) ?_ _
            go_wp2_with fail
            go_roundw
            case rel => exact ⟨k + 1, by omega, by go_num, by rw [HN.out, HS.out, HTT.out]; exact congrArg Value.string (by apply ByteArray.ext; simp), (hb.drew).trans (hb1.mono hb.size)⟩
            case measure => simp [intOf]; omega
    · obtain rfl : k = L.length := by omega
      rw [List.take_length]
      go_wp2_with fail
      go_ret
      exact ⟨rfl, hb⟩
end Go.Proofs.Ytngdfcommoenkaa
