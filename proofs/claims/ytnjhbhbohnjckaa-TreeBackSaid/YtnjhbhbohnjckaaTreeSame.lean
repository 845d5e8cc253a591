/-
  The walk of the reference's Same.
-/
import Derived.Test.YtnjhbhbohnjckaaTreeCount
import Derived.Deep.RegionHeld3
set_option linter.unusedVariables false
set_option linter.unusedSimpArgs false
namespace Go.Proofs.Ytnjhbhbohnjckaa
open Go.RowKit
open Tree (Tr)

namespace Tree
theorem sames_len (pl : Bool) : ∀ (a b : List Tr), a.length ≠ b.length → sames pl a b = false
  | [], [], h => absurd rfl h
  | [], _ :: _, _ => by rw [sames] <;> simp
  | _ :: _, [], _ => by rw [sames] <;> simp
  | n :: a, m :: b, h => by rw [sames, sames_len pl a b (by simpa using h), Bool.and_false]
theorem sames_bad (pl : Bool) : ∀ (a b : List Tr) (j : Nat) (h1 : j < a.length) (h2 : j < b.length), same pl a[j] b[j] = false → sames pl a b = false
  | n :: a, m :: b, 0, h1, h2, h => by rw [sames, show same pl n m = false from h, Bool.false_and]
  | n :: a, m :: b, j + 1, h1, h2, h => by
    rw [sames, sames_bad pl a b j (by simpa using h1) (by simpa using h2) (by simpa using h), Bool.and_false]
theorem sames_all (pl : Bool) : ∀ (a b : List Tr), a.length = b.length → (∀ i (h1 : i < a.length) (h2 : i < b.length), same pl a[i] b[i] = true) → sames pl a b = true
  | [], [], _, _ => by rw [sames]
  | n :: a, m :: b, hl, h => by
    have h0 : same pl n m = true := h 0 (by simp) (by simp)
    rw [sames, h0, sames_all pl a b (by simpa using hl) (fun i h1 h2 => by have := h (i + 1) (by simpa using h1) (by simpa using h2); simpa using this)]; rfl
end Tree
set_option maxHeartbeats 4000000 in
set_option maxRecDepth 100000 in
theorem same_any : ∀ (f : Nat) (la : List Tr), Tree.counts la < f → Tree.counts la ≤ 1000000 → ∀ (lb : List Tr) (A B : Option Addr) (c d : Nat) (S T : Nat → Prop) (pl : Bool) (w : World), Lies w S A la → (∀ g, S g → g < w.heap.size) → Lies w T B lb → (∀ g, T g → g < w.heap.size) →
    Calls Try.prog 11 #[.slice A la.length c, .slice B lb.length d, .bool pl] w fun e w' => e = .returned (.bool (Tree.sames pl la lb)) ∧ Below w.heap.size w w' := by
  intro f
  induction f with
  | zero => intro l h; omega
  | succ f ih =>
    intro la hf hct lb A B c d S T pl w hla hS hlb hT
    have hll := Tree.len_le_counts la
    have HLA := Lib.hid hla
    have HLB := Lib.hid hlb
    clear hla hlb
    by_cases hlen : la.length = lb.length
    rotate_left
    · have HBAD := Lib.hid (Tree.sames_len pl la lb hlen)
      have g0 : ((la.length : Int) != (lb.length : Int)) = true := by simp; omega
      go_enter Try.func11, Try.ntmps11
      go_wp2
      go_ret
      exact ⟨by rw [HBAD.out]; rfl, Below.refl _ _⟩
    have g0 : ((la.length : Int) != (lb.length : Int)) = false := by simp; omega
    have HLEN := Lib.hid hlen
    clear hlen
    go_enter Try.func11, Try.ntmps11
    go_wp2
    clear g0
    go_loopw [7] (fun i wr => ∃ j : Nat, j ≤ la.length ∧ i = .int .i64 j ∧ (∀ i (h1 : i < la.length) (h2 : i < lb.length), i < j → Tree.same pl la[i] lb[i] = true) ∧ Below w.heap.size w wr) (fun i _ => la.length - (intOf i).toNat)
    case atStart => exact ⟨0, by omega, rfl, fun i _ _ h => by omega, Below.refl _ _⟩
    case round =>
      obtain ⟨j, hj, rfl, hall, hb⟩ := hrel
      by_cases hjl : j < la.length
      · have hjl2 : j < lb.length := by rw [← HLEN.out]; exact hjl
        obtain ⟨g, o, rfl, hg, c0, c1, c2, A', c', c3, hl', -⟩ := HLA.out.get j hjl
        obtain ⟨g2, o2, rfl, hg2, b0, b1, b2, B', d', b3, hm', -⟩ := HLB.out.get j hjl2
        have hsz := hb.size
        have hgl := hS _ hg
        have hgl2 := Nat.lt_of_lt_of_le hgl hsz
        have hhl := hT _ hg2
        have hhl2 := Nat.lt_of_lt_of_le hhl hsz
        have d0 := (hb.cell (p := ⟨g, o + j * 4, none⟩) hgl).trans c0; have d1 := (hb.cell (p := ⟨g, o + j * 4 + 1, none⟩) hgl).trans c1; have d2 := (hb.cell (p := ⟨g, o + j * 4 + 2, none⟩) hgl).trans c2; have d3 := (hb.cell (p := ⟨g, o + j * 4 + 3, none⟩) hgl).trans c3
        have e0 := (hb.cell (p := ⟨g2, o2 + j * 4, none⟩) hhl).trans b0; have e1 := (hb.cell (p := ⟨g2, o2 + j * 4 + 1, none⟩) hhl).trans b1; have e2 := (hb.cell (p := ⟨g2, o2 + j * 4 + 2, none⟩) hhl).trans b2; have e3 := (hb.cell (p := ⟨g2, o2 + j * 4 + 3, none⟩) hhl).trans b3
        have hi0 : (0 : Int) ≤ (j : Int) := Int.natCast_nonneg _
        have hi1 : (j : Int) < (la.length : Int) := by omega
        have hi2 : (j : Int) < (lb.length : Int) := by omega
        have hct2 := Tree.counts_take la j hjl
        have hct3 := Tree.counts_take_le la (j + 1)
        obtain ⟨x1, hx1⟩ : ∃ x, la[j] = x := ⟨_, rfl⟩
        obtain ⟨x2, hx2⟩ : ∃ x, lb[j] = x := ⟨_, rfl⟩
        rw [hx1] at d0 d1 d2 d3 hl' hct2
        rw [hx2] at e0 e1 e2 e3 hm'
        clear c0 c1 c2 c3 b0 b1 b2 b3
        obtain ⟨mk, mp, mt, ml⟩ := x1
        obtain ⟨nk, np, nt, nl⟩ := x2
        dsimp only [Tree.Tr.kind, Tree.Tr.pos, Tree.Tr.text, Tree.Tr.l] at d0 d1 d2 d3 hl' e0 e1 e2 e3 hm'
        rw [show Tree.count (.mk mk mp mt ml) = 1 + Tree.counts ml from by rw [Tree.count]] at hct2
        have hcall := ih ml (by omega) (by omega) nl A' B' c' d' S T pl wr.drew (hl'.keep (fun g hg => hb.drew.block g (hS g hg)) (fun _ h => h)) (fun g hg => Nat.lt_of_lt_of_le (hS g hg) hb.size) (hm'.keep (fun g hg => hb.drew.block g (hT g hg)) (fun _ h => h)) (fun g hg => Nat.lt_of_lt_of_le (hT g hg) hb.size)
        have hsame : Tree.same pl (.mk mk mp mt ml) (.mk nk np nt nl) = (mk == nk && mt == nt && (!pl || mp == np) && Tree.sames pl ml nl) := by rw [Tree.same]
        clear hl' hm' hct2 hct3
        by_cases h1 : mk = nk
        rotate_left
        · have f1 : (mk != nk) = true := by simpa using h1
          have f1' : (mk == nk) = false := by simpa using h1
          rw [f1', Bool.false_and, Bool.false_and, Bool.false_and] at hsame
          have HBAD := Lib.hid (Tree.sames_bad pl la lb j hjl hjl2 (by rw [hx1, hx2]; exact hsame))
          clear hcall hsame hall h1 hx1 hx2
          go_wp2
          refine wp_region_held_drew (S := fun w' => w'.cell? ⟨g, o + j * 4, none⟩ = some (.int .i64 mk) ∧ w'.cell? ⟨g, o + j * 4 + 1, none⟩ = some (.int .i64 mp) ∧ w'.cell? ⟨g, o + j * 4 + 2, none⟩ = some (.string ⟨mt.toArray⟩) ∧ w'.cell? ⟨g, o + j * 4 + 3, none⟩ = some (.slice A' ml.length c') ∧ w'.cell? ⟨g2, o2 + j * 4, none⟩ = some (.int .i64 nk) ∧ w'.cell? ⟨g2, o2 + j * 4 + 1, none⟩ = some (.int .i64 np) ∧ w'.cell? ⟨g2, o2 + j * 4 + 2, none⟩ = some (.string ⟨nt.toArray⟩) ∧ w'.cell? ⟨g2, o2 + j * 4 + 3, none⟩ = some (.slice B' nl.length d')) (by kernel_rfl) ?_ (fun hHeld0 => ?_)
          · first | assumption | go_keep
          refine wpAnyH_take (i := 0) (oi := { dst := some 19, op := Go.Op.move (Go.Operand.tmp 0), type := 27, pos := "ref.go:164", after := #[], guard := none }) (v := ?v_1_0) rfl (by kernel_rfl) (by kernel_rfl) (by kernel_rfl) (fun _ _ _ h => h) (Or.inl ⟨by rfl, ?hy_1_0⟩) (by assumption) ?rest_1_0
          case hy_1_0 => (intro w hSw; (try dsimp only at hSw); go_simp; (try (with_reducible rfl)))
          (try simp only [Act.put, List.setIfInBounds_toArray, List.set_cons_succ, List.set_cons_zero])
          refine wpAnyH_take (i := 1) (oi := { dst := some 20, op := Go.Op.move (Go.Operand.tmp 7), type := 3, pos := "ref.go:164", after := #[], guard := none }) (v := ?v_1_1) rfl (by kernel_rfl) (by kernel_rfl) (by kernel_rfl) (fun _ _ _ h => h) (Or.inl ⟨by rfl, ?hy_1_1⟩) (by assumption) ?rest_1_1
          case hy_1_1 => (intro w hSw; (try dsimp only at hSw); go_simp; (try (with_reducible rfl)))
          (try simp only [Act.put, List.setIfInBounds_toArray, List.set_cons_succ, List.set_cons_zero])
          refine wpAnyH_take (i := 2) (oi := { dst := some 21, op := Go.Op.indexAddr 27 (Go.Operand.tmp 19) (Go.Operand.tmp 20), type := 0, pos := "ref.go:164", after := #[{ on := 0, ground := Go.Ground.data }, { on := 1, ground := Go.Ground.data }], guard := none }) (v := ?v_1_2) rfl (by kernel_rfl) (by kernel_rfl) (by kernel_rfl) (fun _ _ _ h => h) (Or.inl ⟨by rfl, ?hy_1_2⟩) (by assumption) ?rest_1_2
          case hy_1_2 => (intro w hSw; (try dsimp only at hSw); go_simp; (try (with_reducible rfl)))
          (try simp only [Act.put, List.setIfInBounds_toArray, List.set_cons_succ, List.set_cons_zero])
          refine wpAnyH_take (i := 3) (oi := { dst := some 22, op := Go.Op.fieldAddr 43 (Go.Operand.tmp 21) 0, type := 0, pos := "ref.go:164", after := #[{ on := 2, ground := Go.Ground.data }], guard := none }) (v := ?v_1_3) rfl (by kernel_rfl) (by kernel_rfl) (by kernel_rfl) (fun _ _ _ h => h) (Or.inl ⟨by rfl, ?hy_1_3⟩) (by assumption) ?rest_1_3
          case hy_1_3 => (intro w hSw; (try dsimp only at hSw); go_simp; (try (with_reducible rfl)))
          (try simp only [Act.put, List.setIfInBounds_toArray, List.set_cons_succ, List.set_cons_zero])
          refine wpAnyH_take (i := 4) (oi := { dst := some 23, op := Go.Op.load 3 (Go.Operand.tmp 22), type := 3, pos := "ref.go:164", after := #[{ on := 3, ground := Go.Ground.data }], guard := none }) (v := ?v_1_4) rfl (by kernel_rfl) (by kernel_rfl) (by kernel_rfl) (fun _ _ _ h => h) (Or.inl ⟨by rfl, ?hy_1_4⟩) (by assumption) ?rest_1_4
          case hy_1_4 => (intro w hSw; (try dsimp only at hSw); go_simp; (try (with_reducible rfl)))
          (try simp only [Act.put, List.setIfInBounds_toArray, List.set_cons_succ, List.set_cons_zero])
          refine wpAnyH_take (i := 5) (oi := { dst := some 24, op := Go.Op.move (Go.Operand.tmp 1), type := 27, pos := "ref.go:164", after := #[], guard := none }) (v := ?v_1_5) rfl (by kernel_rfl) (by kernel_rfl) (by kernel_rfl) (fun _ _ _ h => h) (Or.inl ⟨by rfl, ?hy_1_5⟩) (by assumption) ?rest_1_5
          case hy_1_5 => (intro w hSw; (try dsimp only at hSw); go_simp; (try (with_reducible rfl)))
          (try simp only [Act.put, List.setIfInBounds_toArray, List.set_cons_succ, List.set_cons_zero])
          refine wpAnyH_take (i := 6) (oi := { dst := some 25, op := Go.Op.move (Go.Operand.tmp 7), type := 3, pos := "ref.go:164", after := #[], guard := none }) (v := ?v_1_6) rfl (by kernel_rfl) (by kernel_rfl) (by kernel_rfl) (fun _ _ _ h => h) (Or.inl ⟨by rfl, ?hy_1_6⟩) (by assumption) ?rest_1_6
          case hy_1_6 => (intro w hSw; (try dsimp only at hSw); go_simp; (try (with_reducible rfl)))
          (try simp only [Act.put, List.setIfInBounds_toArray, List.set_cons_succ, List.set_cons_zero])
          refine wpAnyH_take (i := 7) (oi := { dst := some 26, op := Go.Op.indexAddr 27 (Go.Operand.tmp 24) (Go.Operand.tmp 25), type := 0, pos := "ref.go:164", after := #[{ on := 5, ground := Go.Ground.data }, { on := 6, ground := Go.Ground.data }], guard := none }) (v := ?v_1_7) rfl (by kernel_rfl) (by kernel_rfl) (by kernel_rfl) (fun _ _ _ h => h) (Or.inl ⟨by rfl, ?hy_1_7⟩) (by assumption) ?rest_1_7
          case hy_1_7 => (intro w hSw; (try dsimp only at hSw); go_simp; (try (with_reducible rfl)))
          (try simp only [Act.put, List.setIfInBounds_toArray, List.set_cons_succ, List.set_cons_zero])
          refine wpAnyH_take (i := 8) (oi := { dst := some 27, op := Go.Op.fieldAddr 43 (Go.Operand.tmp 26) 0, type := 0, pos := "ref.go:164", after := #[{ on := 7, ground := Go.Ground.data }], guard := none }) (v := ?v_1_8) rfl (by kernel_rfl) (by kernel_rfl) (by kernel_rfl) (fun _ _ _ h => h) (Or.inl ⟨by rfl, ?hy_1_8⟩) (by assumption) ?rest_1_8
          case hy_1_8 => (intro w hSw; (try dsimp only at hSw); go_simp; (try (with_reducible rfl)))
          (try simp only [Act.put, List.setIfInBounds_toArray, List.set_cons_succ, List.set_cons_zero])
          refine wpAnyH_take (i := 9) (oi := { dst := some 28, op := Go.Op.load 3 (Go.Operand.tmp 27), type := 3, pos := "ref.go:164", after := #[{ on := 8, ground := Go.Ground.data }], guard := none }) (v := ?v_1_9) rfl (by kernel_rfl) (by kernel_rfl) (by kernel_rfl) (fun _ _ _ h => h) (Or.inl ⟨by rfl, ?hy_1_9⟩) (by assumption) ?rest_1_9
          case hy_1_9 => (intro w hSw; (try dsimp only at hSw); go_simp; (try (with_reducible rfl)))
          (try simp only [Act.put, List.setIfInBounds_toArray, List.set_cons_succ, List.set_cons_zero])
          refine wpAnyH_take (i := 10) (oi := { dst := some 29, op := Go.Op.binOp Go.BinOp.neq 3 (Go.Operand.tmp 23) (Go.Operand.tmp 28) 3, type := 4, pos := "ref.go:164", after := #[{ on := 4, ground := Go.Ground.data }, { on := 9, ground := Go.Ground.data }], guard := none }) (v := ?v_1_10) rfl (by kernel_rfl) (by kernel_rfl) (by kernel_rfl) (fun _ _ _ h => h) (Or.inl ⟨by rfl, ?hy_1_10⟩) (by assumption) ?rest_1_10
          case hy_1_10 => (intro w hSw; (try dsimp only at hSw); go_simp; (try (with_reducible rfl)))
          (try simp only [Act.put, List.setIfInBounds_toArray, List.set_cons_succ, List.set_cons_zero])
          refine wpAnyH_take (i := 11) (oi := { dst := some 30, op := Go.Op.move (Go.Operand.tmp 29), type := 4, pos := "ref.go:164", after := #[{ on := 10, ground := Go.Ground.data }], guard := none }) (v := ?v_1_11) rfl (by kernel_rfl) (by kernel_rfl) (by kernel_rfl) (fun _ _ _ h => h) (Or.inl ⟨by rfl, ?hy_1_11⟩) (by assumption) ?rest_1_11
          case hy_1_11 => (intro w hSw; (try dsimp only at hSw); go_simp; (try (with_reducible rfl)))
          (try simp only [Act.put, List.setIfInBounds_toArray, List.set_cons_succ, List.set_cons_zero])
          refine wpAnyH_take (i := 12) (oi := { dst := some 31, op := Go.Op.move (Go.Operand.tmp 0), type := 27, pos := "ref.go:164", after := #[{ on := 11, ground := Go.Ground.guard }], guard := some (11, false) }) (v := undef) rfl (by kernel_rfl) (by kernel_rfl) (by kernel_rfl) (fun _ _ _ h => h) (Or.inr ⟨by rfl, rfl⟩) (by assumption) ?rest_1_12
          (try simp only [Act.put, List.setIfInBounds_toArray, List.set_cons_succ, List.set_cons_zero])
          refine wpAnyH_take (i := 13) (oi := { dst := some 32, op := Go.Op.move (Go.Operand.tmp 7), type := 3, pos := "ref.go:164", after := #[{ on := 11, ground := Go.Ground.guard }], guard := some (11, false) }) (v := undef) rfl (by kernel_rfl) (by kernel_rfl) (by kernel_rfl) (fun _ _ _ h => h) (Or.inr ⟨by rfl, rfl⟩) (by assumption) ?rest_1_13
          (try simp only [Act.put, List.setIfInBounds_toArray, List.set_cons_succ, List.set_cons_zero])
          refine wpAnyH_take (i := 14) (oi := { dst := some 33, op := Go.Op.indexAddr 27 (Go.Operand.tmp 31) (Go.Operand.tmp 32), type := 0, pos := "ref.go:164", after := #[{ on := 12, ground := Go.Ground.data }, { on := 13, ground := Go.Ground.data }, { on := 11, ground := Go.Ground.guard }], guard := some (11, false) }) (v := undef) rfl (by kernel_rfl) (by kernel_rfl) (by kernel_rfl) (fun _ _ _ h => h) (Or.inr ⟨by rfl, rfl⟩) (by assumption) ?rest_1_14
          (try simp only [Act.put, List.setIfInBounds_toArray, List.set_cons_succ, List.set_cons_zero])
          refine wpAnyH_take (i := 15) (oi := { dst := some 34, op := Go.Op.fieldAddr 43 (Go.Operand.tmp 33) 2, type := 0, pos := "ref.go:164", after := #[{ on := 14, ground := Go.Ground.data }, { on := 11, ground := Go.Ground.guard }], guard := some (11, false) }) (v := undef) rfl (by kernel_rfl) (by kernel_rfl) (by kernel_rfl) (fun _ _ _ h => h) (Or.inr ⟨by rfl, rfl⟩) (by assumption) ?rest_1_15
          (try simp only [Act.put, List.setIfInBounds_toArray, List.set_cons_succ, List.set_cons_zero])
          refine wpAnyH_take (i := 16) (oi := { dst := some 35, op := Go.Op.load 9 (Go.Operand.tmp 34), type := 9, pos := "ref.go:164", after := #[{ on := 15, ground := Go.Ground.data }, { on := 11, ground := Go.Ground.guard }], guard := some (11, false) }) (v := undef) rfl (by kernel_rfl) (by kernel_rfl) (by kernel_rfl) (fun _ _ _ h => h) (Or.inr ⟨by rfl, rfl⟩) (by assumption) ?rest_1_16
          (try simp only [Act.put, List.setIfInBounds_toArray, List.set_cons_succ, List.set_cons_zero])
          refine wpAnyH_take (i := 17) (oi := { dst := some 36, op := Go.Op.move (Go.Operand.tmp 1), type := 27, pos := "ref.go:164", after := #[{ on := 11, ground := Go.Ground.guard }], guard := some (11, false) }) (v := undef) rfl (by kernel_rfl) (by kernel_rfl) (by kernel_rfl) (fun _ _ _ h => h) (Or.inr ⟨by rfl, rfl⟩) (by assumption) ?rest_1_17
          (try simp only [Act.put, List.setIfInBounds_toArray, List.set_cons_succ, List.set_cons_zero])
          refine wpAnyH_take (i := 18) (oi := { dst := some 37, op := Go.Op.move (Go.Operand.tmp 7), type := 3, pos := "ref.go:164", after := #[{ on := 11, ground := Go.Ground.guard }], guard := some (11, false) }) (v := undef) rfl (by kernel_rfl) (by kernel_rfl) (by kernel_rfl) (fun _ _ _ h => h) (Or.inr ⟨by rfl, rfl⟩) (by assumption) ?rest_1_18
          (try simp only [Act.put, List.setIfInBounds_toArray, List.set_cons_succ, List.set_cons_zero])
          refine wpAnyH_take (i := 19) (oi := { dst := some 38, op := Go.Op.indexAddr 27 (Go.Operand.tmp 36) (Go.Operand.tmp 37), type := 0, pos := "ref.go:164", after := #[{ on := 17, ground := Go.Ground.data }, { on := 18, ground := Go.Ground.data }, { on := 11, ground := Go.Ground.guard }], guard := some (11, false) }) (v := undef) rfl (by kernel_rfl) (by kernel_rfl) (by kernel_rfl) (fun _ _ _ h => h) (Or.inr ⟨by rfl, rfl⟩) (by assumption) ?rest_1_19
          (try simp only [Act.put, List.setIfInBounds_toArray, List.set_cons_succ, List.set_cons_zero])
          refine wpAnyH_take (i := 20) (oi := { dst := some 39, op := Go.Op.fieldAddr 43 (Go.Operand.tmp 38) 2, type := 0, pos := "ref.go:164", after := #[{ on := 19, ground := Go.Ground.data }, { on := 11, ground := Go.Ground.guard }], guard := some (11, false) }) (v := undef) rfl (by kernel_rfl) (by kernel_rfl) (by kernel_rfl) (fun _ _ _ h => h) (Or.inr ⟨by rfl, rfl⟩) (by assumption) ?rest_1_20
          (try simp only [Act.put, List.setIfInBounds_toArray, List.set_cons_succ, List.set_cons_zero])
          refine wpAnyH_take (i := 21) (oi := { dst := some 40, op := Go.Op.load 9 (Go.Operand.tmp 39), type := 9, pos := "ref.go:164", after := #[{ on := 20, ground := Go.Ground.data }, { on := 11, ground := Go.Ground.guard }], guard := some (11, false) }) (v := undef) rfl (by kernel_rfl) (by kernel_rfl) (by kernel_rfl) (fun _ _ _ h => h) (Or.inr ⟨by rfl, rfl⟩) (by assumption) ?rest_1_21
          (try simp only [Act.put, List.setIfInBounds_toArray, List.set_cons_succ, List.set_cons_zero])
          refine wpAnyH_take (i := 22) (oi := { dst := some 41, op := Go.Op.binOp Go.BinOp.neq 9 (Go.Operand.tmp 35) (Go.Operand.tmp 40) 9, type := 4, pos := "ref.go:164", after := #[{ on := 16, ground := Go.Ground.data }, { on := 21, ground := Go.Ground.data }, { on := 11, ground := Go.Ground.guard }], guard := some (11, false) }) (v := undef) rfl (by kernel_rfl) (by kernel_rfl) (by kernel_rfl) (fun _ _ _ h => h) (Or.inr ⟨by rfl, rfl⟩) (by assumption) ?rest_1_22
          (try simp only [Act.put, List.setIfInBounds_toArray, List.set_cons_succ, List.set_cons_zero])
          refine wpAnyH_take (i := 23) (oi := { dst := some 42, op := Go.Op.pick (Go.Operand.tmp 30) (Go.Operand.const (Go.Value.bool true)) (Go.Operand.tmp 41), type := 4, pos := "ref.go:164", after := #[{ on := 11, ground := Go.Ground.data }, { on := 22, ground := Go.Ground.data }], guard := none }) (v := ?v_1_23) rfl (by kernel_rfl) (by kernel_rfl) (by kernel_rfl) (fun _ _ _ h => h) (Or.inl ⟨by rfl, ?hy_1_23⟩) (by assumption) ?rest_1_23
          case hy_1_23 => (intro w hSw; (try dsimp only at hSw); go_simp; (try (with_reducible rfl)))
          (try simp only [Act.put, List.setIfInBounds_toArray, List.set_cons_succ, List.set_cons_zero])
          refine wpAnyH_take (i := 24) (oi := { dst := some 43, op := Go.Op.move (Go.Operand.tmp 42), type := 4, pos := "ref.go:164", after := #[{ on := 23, ground := Go.Ground.data }, { on := 11, ground := Go.Ground.chain }], guard := none }) (v := ?v_1_24) rfl (by kernel_rfl) (by kernel_rfl) (by kernel_rfl) (fun _ _ _ h => h) (Or.inl ⟨by rfl, ?hy_1_24⟩) (by assumption) ?rest_1_24
          case hy_1_24 => (intro w hSw; (try dsimp only at hSw); go_simp; (try (with_reducible rfl)))
          (try simp only [Act.put, List.setIfInBounds_toArray, List.set_cons_succ, List.set_cons_zero])
          refine wpAnyH_take (i := 25) (oi := { dst := some 44, op := Go.Op.move (Go.Operand.tmp 2), type := 4, pos := "ref.go:164", after := #[{ on := 24, ground := Go.Ground.guard }], guard := some (24, false) }) (v := undef) rfl (by kernel_rfl) (by kernel_rfl) (by kernel_rfl) (fun _ _ _ h => h) (Or.inr ⟨by rfl, rfl⟩) (by assumption) ?rest_1_25
          (try simp only [Act.put, List.setIfInBounds_toArray, List.set_cons_succ, List.set_cons_zero])
          refine wpAnyH_take (i := 26) (oi := { dst := some 45, op := Go.Op.move (Go.Operand.tmp 44), type := 4, pos := "ref.go:164", after := #[{ on := 25, ground := Go.Ground.data }, { on := 24, ground := Go.Ground.chain }, { on := 24, ground := Go.Ground.guard }], guard := some (24, false) }) (v := undef) rfl (by kernel_rfl) (by kernel_rfl) (by kernel_rfl) (fun _ _ _ h => h) (Or.inr ⟨by rfl, rfl⟩) (by assumption) ?rest_1_26
          (try simp only [Act.put, List.setIfInBounds_toArray, List.set_cons_succ, List.set_cons_zero])
          refine wpAnyH_take (i := 27) (oi := { dst := some 46, op := Go.Op.move (Go.Operand.tmp 0), type := 27, pos := "ref.go:164", after := #[{ on := 26, ground := Go.Ground.guard }], guard := some (26, true) }) (v := undef) rfl (by kernel_rfl) (by kernel_rfl) (by kernel_rfl) (fun _ _ _ h => h) (Or.inr ⟨by rfl, rfl⟩) (by assumption) ?rest_1_27
          (try simp only [Act.put, List.setIfInBounds_toArray, List.set_cons_succ, List.set_cons_zero])
          refine wpAnyH_take (i := 28) (oi := { dst := some 47, op := Go.Op.move (Go.Operand.tmp 7), type := 3, pos := "ref.go:164", after := #[{ on := 26, ground := Go.Ground.guard }], guard := some (26, true) }) (v := undef) rfl (by kernel_rfl) (by kernel_rfl) (by kernel_rfl) (fun _ _ _ h => h) (Or.inr ⟨by rfl, rfl⟩) (by assumption) ?rest_1_28
          (try simp only [Act.put, List.setIfInBounds_toArray, List.set_cons_succ, List.set_cons_zero])
          refine wpAnyH_take (i := 29) (oi := { dst := some 48, op := Go.Op.indexAddr 27 (Go.Operand.tmp 46) (Go.Operand.tmp 47), type := 0, pos := "ref.go:164", after := #[{ on := 27, ground := Go.Ground.data }, { on := 28, ground := Go.Ground.data }, { on := 26, ground := Go.Ground.guard }], guard := some (26, true) }) (v := undef) rfl (by kernel_rfl) (by kernel_rfl) (by kernel_rfl) (fun _ _ _ h => h) (Or.inr ⟨by rfl, rfl⟩) (by assumption) ?rest_1_29
          (try simp only [Act.put, List.setIfInBounds_toArray, List.set_cons_succ, List.set_cons_zero])
          refine wpAnyH_take (i := 30) (oi := { dst := some 49, op := Go.Op.fieldAddr 43 (Go.Operand.tmp 48) 1, type := 0, pos := "ref.go:164", after := #[{ on := 29, ground := Go.Ground.data }, { on := 26, ground := Go.Ground.guard }], guard := some (26, true) }) (v := undef) rfl (by kernel_rfl) (by kernel_rfl) (by kernel_rfl) (fun _ _ _ h => h) (Or.inr ⟨by rfl, rfl⟩) (by assumption) ?rest_1_30
          (try simp only [Act.put, List.setIfInBounds_toArray, List.set_cons_succ, List.set_cons_zero])
          refine wpAnyH_take (i := 31) (oi := { dst := some 50, op := Go.Op.load 3 (Go.Operand.tmp 49), type := 3, pos := "ref.go:164", after := #[{ on := 30, ground := Go.Ground.data }, { on := 26, ground := Go.Ground.guard }], guard := some (26, true) }) (v := undef) rfl (by kernel_rfl) (by kernel_rfl) (by kernel_rfl) (fun _ _ _ h => h) (Or.inr ⟨by rfl, rfl⟩) (by assumption) ?rest_1_31
          (try simp only [Act.put, List.setIfInBounds_toArray, List.set_cons_succ, List.set_cons_zero])
          refine wpAnyH_take (i := 32) (oi := { dst := some 51, op := Go.Op.move (Go.Operand.tmp 1), type := 27, pos := "ref.go:164", after := #[{ on := 26, ground := Go.Ground.guard }], guard := some (26, true) }) (v := undef) rfl (by kernel_rfl) (by kernel_rfl) (by kernel_rfl) (fun _ _ _ h => h) (Or.inr ⟨by rfl, rfl⟩) (by assumption) ?rest_1_32
          (try simp only [Act.put, List.setIfInBounds_toArray, List.set_cons_succ, List.set_cons_zero])
          refine wpAnyH_take (i := 33) (oi := { dst := some 52, op := Go.Op.move (Go.Operand.tmp 7), type := 3, pos := "ref.go:164", after := #[{ on := 26, ground := Go.Ground.guard }], guard := some (26, true) }) (v := undef) rfl (by kernel_rfl) (by kernel_rfl) (by kernel_rfl) (fun _ _ _ h => h) (Or.inr ⟨by rfl, rfl⟩) (by assumption) ?rest_1_33
          (try simp only [Act.put, List.setIfInBounds_toArray, List.set_cons_succ, List.set_cons_zero])
          refine wpAnyH_take (i := 34) (oi := { dst := some 53, op := Go.Op.indexAddr 27 (Go.Operand.tmp 51) (Go.Operand.tmp 52), type := 0, pos := "ref.go:164", after := #[{ on := 32, ground := Go.Ground.data }, { on := 33, ground := Go.Ground.data }, { on := 26, ground := Go.Ground.guard }], guard := some (26, true) }) (v := undef) rfl (by kernel_rfl) (by kernel_rfl) (by kernel_rfl) (fun _ _ _ h => h) (Or.inr ⟨by rfl, rfl⟩) (by assumption) ?rest_1_34
          (try simp only [Act.put, List.setIfInBounds_toArray, List.set_cons_succ, List.set_cons_zero])
          refine wpAnyH_take (i := 35) (oi := { dst := some 54, op := Go.Op.fieldAddr 43 (Go.Operand.tmp 53) 1, type := 0, pos := "ref.go:164", after := #[{ on := 34, ground := Go.Ground.data }, { on := 26, ground := Go.Ground.guard }], guard := some (26, true) }) (v := undef) rfl (by kernel_rfl) (by kernel_rfl) (by kernel_rfl) (fun _ _ _ h => h) (Or.inr ⟨by rfl, rfl⟩) (by assumption) ?rest_1_35
          (try simp only [Act.put, List.setIfInBounds_toArray, List.set_cons_succ, List.set_cons_zero])
          refine wpAnyH_take (i := 36) (oi := { dst := some 55, op := Go.Op.load 3 (Go.Operand.tmp 54), type := 3, pos := "ref.go:164", after := #[{ on := 35, ground := Go.Ground.data }, { on := 26, ground := Go.Ground.guard }], guard := some (26, true) }) (v := undef) rfl (by kernel_rfl) (by kernel_rfl) (by kernel_rfl) (fun _ _ _ h => h) (Or.inr ⟨by rfl, rfl⟩) (by assumption) ?rest_1_36
          (try simp only [Act.put, List.setIfInBounds_toArray, List.set_cons_succ, List.set_cons_zero])
          refine wpAnyH_take (i := 37) (oi := { dst := some 56, op := Go.Op.binOp Go.BinOp.neq 3 (Go.Operand.tmp 50) (Go.Operand.tmp 55) 3, type := 4, pos := "ref.go:164", after := #[{ on := 31, ground := Go.Ground.data }, { on := 36, ground := Go.Ground.data }, { on := 26, ground := Go.Ground.guard }], guard := some (26, true) }) (v := undef) rfl (by kernel_rfl) (by kernel_rfl) (by kernel_rfl) (fun _ _ _ h => h) (Or.inr ⟨by rfl, rfl⟩) (by assumption) ?rest_1_37
          (try simp only [Act.put, List.setIfInBounds_toArray, List.set_cons_succ, List.set_cons_zero])
          refine wpAnyH_take (i := 38) (oi := { dst := some 57, op := Go.Op.pick (Go.Operand.tmp 45) (Go.Operand.tmp 56) (Go.Operand.const (Go.Value.bool false)), type := 4, pos := "ref.go:164", after := #[{ on := 26, ground := Go.Ground.data }, { on := 37, ground := Go.Ground.data }, { on := 24, ground := Go.Ground.guard }], guard := some (24, false) }) (v := undef) rfl (by kernel_rfl) (by kernel_rfl) (by kernel_rfl) (fun _ _ _ h => h) (Or.inr ⟨by rfl, rfl⟩) (by assumption) ?rest_1_38
          (try simp only [Act.put, List.setIfInBounds_toArray, List.set_cons_succ, List.set_cons_zero])
          refine wpAnyH_take (i := 39) (oi := { dst := some 58, op := Go.Op.pick (Go.Operand.tmp 43) (Go.Operand.const (Go.Value.bool true)) (Go.Operand.tmp 57), type := 4, pos := "ref.go:164", after := #[{ on := 24, ground := Go.Ground.data }, { on := 38, ground := Go.Ground.data }], guard := none }) (v := ?v_1_39) rfl (by kernel_rfl) (by kernel_rfl) (by kernel_rfl) (fun _ _ _ h => h) (Or.inl ⟨by rfl, ?hy_1_39⟩) (by assumption) ?rest_1_39
          case hy_1_39 => (intro w hSw; (try dsimp only at hSw); go_simp; (try (with_reducible rfl)))
          (try simp only [Act.put, List.setIfInBounds_toArray, List.set_cons_succ, List.set_cons_zero])
          refine wpAnyH_take (i := 40) (oi := { dst := some 59, op := Go.Op.move (Go.Operand.tmp 58), type := 4, pos := "ref.go:164", after := #[{ on := 39, ground := Go.Ground.data }, { on := 26, ground := Go.Ground.chain }], guard := none }) (v := ?v_1_40) rfl (by kernel_rfl) (by kernel_rfl) (by kernel_rfl) (fun _ _ _ h => h) (Or.inl ⟨by rfl, ?hy_1_40⟩) (by assumption) ?rest_1_40
          case hy_1_40 => (intro w hSw; (try dsimp only at hSw); go_simp; (try (with_reducible rfl)))
          (try simp only [Act.put, List.setIfInBounds_toArray, List.set_cons_succ, List.set_cons_zero])
          refine wpAnyH_take (i := 41) (oi := { dst := some 60, op := Go.Op.move (Go.Operand.tmp 0), type := 27, pos := "ref.go:164", after := #[{ on := 40, ground := Go.Ground.guard }], guard := some (40, false) }) (v := undef) rfl (by kernel_rfl) (by kernel_rfl) (by kernel_rfl) (fun _ _ _ h => h) (Or.inr ⟨by rfl, rfl⟩) (by assumption) ?rest_1_41
          (try simp only [Act.put, List.setIfInBounds_toArray, List.set_cons_succ, List.set_cons_zero])
          refine wpAnyH_take (i := 42) (oi := { dst := some 61, op := Go.Op.move (Go.Operand.tmp 7), type := 3, pos := "ref.go:164", after := #[{ on := 40, ground := Go.Ground.guard }], guard := some (40, false) }) (v := undef) rfl (by kernel_rfl) (by kernel_rfl) (by kernel_rfl) (fun _ _ _ h => h) (Or.inr ⟨by rfl, rfl⟩) (by assumption) ?rest_1_42
          (try simp only [Act.put, List.setIfInBounds_toArray, List.set_cons_succ, List.set_cons_zero])
          refine wpAnyH_take (i := 43) (oi := { dst := some 62, op := Go.Op.indexAddr 27 (Go.Operand.tmp 60) (Go.Operand.tmp 61), type := 0, pos := "ref.go:164", after := #[{ on := 41, ground := Go.Ground.data }, { on := 42, ground := Go.Ground.data }, { on := 40, ground := Go.Ground.guard }], guard := some (40, false) }) (v := undef) rfl (by kernel_rfl) (by kernel_rfl) (by kernel_rfl) (fun _ _ _ h => h) (Or.inr ⟨by rfl, rfl⟩) (by assumption) ?rest_1_43
          (try simp only [Act.put, List.setIfInBounds_toArray, List.set_cons_succ, List.set_cons_zero])
          refine wpAnyH_take (i := 44) (oi := { dst := some 63, op := Go.Op.fieldAddr 43 (Go.Operand.tmp 62) 3, type := 0, pos := "ref.go:164", after := #[{ on := 43, ground := Go.Ground.data }, { on := 40, ground := Go.Ground.guard }], guard := some (40, false) }) (v := undef) rfl (by kernel_rfl) (by kernel_rfl) (by kernel_rfl) (fun _ _ _ h => h) (Or.inr ⟨by rfl, rfl⟩) (by assumption) ?rest_1_44
          (try simp only [Act.put, List.setIfInBounds_toArray, List.set_cons_succ, List.set_cons_zero])
          refine wpAnyH_take (i := 45) (oi := { dst := some 64, op := Go.Op.load 27 (Go.Operand.tmp 63), type := 27, pos := "ref.go:164", after := #[{ on := 44, ground := Go.Ground.data }, { on := 40, ground := Go.Ground.guard }], guard := some (40, false) }) (v := undef) rfl (by kernel_rfl) (by kernel_rfl) (by kernel_rfl) (fun _ _ _ h => h) (Or.inr ⟨by rfl, rfl⟩) (by assumption) ?rest_1_45
          (try simp only [Act.put, List.setIfInBounds_toArray, List.set_cons_succ, List.set_cons_zero])
          refine wpAnyH_take (i := 46) (oi := { dst := some 65, op := Go.Op.move (Go.Operand.tmp 1), type := 27, pos := "ref.go:164", after := #[{ on := 40, ground := Go.Ground.guard }], guard := some (40, false) }) (v := undef) rfl (by kernel_rfl) (by kernel_rfl) (by kernel_rfl) (fun _ _ _ h => h) (Or.inr ⟨by rfl, rfl⟩) (by assumption) ?rest_1_46
          (try simp only [Act.put, List.setIfInBounds_toArray, List.set_cons_succ, List.set_cons_zero])
          refine wpAnyH_take (i := 47) (oi := { dst := some 66, op := Go.Op.move (Go.Operand.tmp 7), type := 3, pos := "ref.go:164", after := #[{ on := 40, ground := Go.Ground.guard }], guard := some (40, false) }) (v := undef) rfl (by kernel_rfl) (by kernel_rfl) (by kernel_rfl) (fun _ _ _ h => h) (Or.inr ⟨by rfl, rfl⟩) (by assumption) ?rest_1_47
          (try simp only [Act.put, List.setIfInBounds_toArray, List.set_cons_succ, List.set_cons_zero])
          refine wpAnyH_take (i := 48) (oi := { dst := some 67, op := Go.Op.indexAddr 27 (Go.Operand.tmp 65) (Go.Operand.tmp 66), type := 0, pos := "ref.go:164", after := #[{ on := 46, ground := Go.Ground.data }, { on := 47, ground := Go.Ground.data }, { on := 40, ground := Go.Ground.guard }], guard := some (40, false) }) (v := undef) rfl (by kernel_rfl) (by kernel_rfl) (by kernel_rfl) (fun _ _ _ h => h) (Or.inr ⟨by rfl, rfl⟩) (by assumption) ?rest_1_48
          (try simp only [Act.put, List.setIfInBounds_toArray, List.set_cons_succ, List.set_cons_zero])
          refine wpAnyH_take (i := 49) (oi := { dst := some 68, op := Go.Op.fieldAddr 43 (Go.Operand.tmp 67) 3, type := 0, pos := "ref.go:164", after := #[{ on := 48, ground := Go.Ground.data }, { on := 40, ground := Go.Ground.guard }], guard := some (40, false) }) (v := undef) rfl (by kernel_rfl) (by kernel_rfl) (by kernel_rfl) (fun _ _ _ h => h) (Or.inr ⟨by rfl, rfl⟩) (by assumption) ?rest_1_49
          (try simp only [Act.put, List.setIfInBounds_toArray, List.set_cons_succ, List.set_cons_zero])
          refine wpAnyH_take (i := 50) (oi := { dst := some 69, op := Go.Op.load 27 (Go.Operand.tmp 68), type := 27, pos := "ref.go:164", after := #[{ on := 49, ground := Go.Ground.data }, { on := 40, ground := Go.Ground.guard }], guard := some (40, false) }) (v := undef) rfl (by kernel_rfl) (by kernel_rfl) (by kernel_rfl) (fun _ _ _ h => h) (Or.inr ⟨by rfl, rfl⟩) (by assumption) ?rest_1_50
          (try simp only [Act.put, List.setIfInBounds_toArray, List.set_cons_succ, List.set_cons_zero])
          refine wpAnyH_take (i := 51) (oi := { dst := some 70, op := Go.Op.move (Go.Operand.tmp 2), type := 4, pos := "ref.go:164", after := #[{ on := 40, ground := Go.Ground.guard }], guard := some (40, false) }) (v := undef) rfl (by kernel_rfl) (by kernel_rfl) (by kernel_rfl) (fun _ _ _ h => h) (Or.inr ⟨by rfl, rfl⟩) (by assumption) ?rest_1_51
          (try simp only [Act.put, List.setIfInBounds_toArray, List.set_cons_succ, List.set_cons_zero])
          refine wpAnyH_take (i := 52) (oi := { dst := some 71, op := Go.Op.call { callee := Go.Callee.value (Go.Operand.func 11), args := #[Go.Operand.tmp 64, Go.Operand.tmp 69, Go.Operand.tmp 70], argTypes := #[27, 27, 4] }, type := 4, pos := "ref.go:164", after := #[{ on := 45, ground := Go.Ground.data }, { on := 50, ground := Go.Ground.data }, { on := 51, ground := Go.Ground.data }, { on := 40, ground := Go.Ground.chain }, { on := 40, ground := Go.Ground.guard }], guard := some (40, false) }) (v := undef) rfl (by kernel_rfl) (by kernel_rfl) (by kernel_rfl) (fun _ _ _ h => h) (Or.inr ⟨by rfl, rfl⟩) (by assumption) ?rest_1_52
          (try simp only [Act.put, List.setIfInBounds_toArray, List.set_cons_succ, List.set_cons_zero])
          refine wpAnyH_take (i := 53) (oi := { dst := some 72, op := Go.Op.unOp Go.UnOp.not 4 (Go.Operand.tmp 71), type := 4, pos := "ref.go:164", after := #[{ on := 52, ground := Go.Ground.data }, { on := 40, ground := Go.Ground.guard }], guard := some (40, false) }) (v := undef) rfl (by kernel_rfl) (by kernel_rfl) (by kernel_rfl) (fun _ _ _ h => h) (Or.inr ⟨by rfl, rfl⟩) (by assumption) ?rest_1_53
          (try simp only [Act.put, List.setIfInBounds_toArray, List.set_cons_succ, List.set_cons_zero])
          refine wpAnyH_take (i := 54) (oi := { dst := some 73, op := Go.Op.pick (Go.Operand.tmp 59) (Go.Operand.const (Go.Value.bool true)) (Go.Operand.tmp 72), type := 4, pos := "ref.go:164", after := #[{ on := 40, ground := Go.Ground.data }, { on := 53, ground := Go.Ground.data }], guard := none }) (v := ?v_1_54) rfl (by kernel_rfl) (by kernel_rfl) (by kernel_rfl) (fun _ _ _ h => h) (Or.inl ⟨by rfl, ?hy_1_54⟩) (by assumption) ?rest_1_54
          case hy_1_54 => (intro w hSw; (try dsimp only at hSw); go_simp; (try (with_reducible rfl)))
          (try simp only [Act.put, List.setIfInBounds_toArray, List.set_cons_succ, List.set_cons_zero])
          refine wpAnyH_done (by kernel_rfl) ?_ _

          go_wp2
          go_ret
          exact ⟨by rw [HBAD.out]; rfl, hb.drew⟩

        have f1 : (mk != nk) = false := by simpa using h1
        have f1' : (mk == nk) = true := by simpa using h1
        rw [f1', Bool.true_and] at hsame
        by_cases h2 : mt = nt
        rotate_left
        · have f2 : (({ data := mt.toArray } : ByteArray) != { data := nt.toArray }) = true := by show (!(mt.toArray == nt.toArray)) = true; simpa using h2
          have f2' : (mt == nt) = false := by simpa using h2
          rw [f2', Bool.false_and, Bool.false_and] at hsame
          have HBAD := Lib.hid (Tree.sames_bad pl la lb j hjl hjl2 (by rw [hx1, hx2]; exact hsame))
          clear hcall hsame hall h2 hx1 hx2
          go_wp2
          refine wp_region_held_drew (S := fun w' => w'.cell? ⟨g, o + j * 4, none⟩ = some (.int .i64 mk) ∧ w'.cell? ⟨g, o + j * 4 + 1, none⟩ = some (.int .i64 mp) ∧ w'.cell? ⟨g, o + j * 4 + 2, none⟩ = some (.string ⟨mt.toArray⟩) ∧ w'.cell? ⟨g, o + j * 4 + 3, none⟩ = some (.slice A' ml.length c') ∧ w'.cell? ⟨g2, o2 + j * 4, none⟩ = some (.int .i64 nk) ∧ w'.cell? ⟨g2, o2 + j * 4 + 1, none⟩ = some (.int .i64 np) ∧ w'.cell? ⟨g2, o2 + j * 4 + 2, none⟩ = some (.string ⟨nt.toArray⟩) ∧ w'.cell? ⟨g2, o2 + j * 4 + 3, none⟩ = some (.slice B' nl.length d')) (by kernel_rfl) ?_ (fun hHeld0 => ?_)
          · first | assumption | go_keep
          refine wpAnyH_take (i := 0) (oi := { dst := some 19, op := Go.Op.move (Go.Operand.tmp 0), type := 27, pos := "ref.go:164", after := #[], guard := none }) (v := ?v_2_0) rfl (by kernel_rfl) (by kernel_rfl) (by kernel_rfl) (fun _ _ _ h => h) (Or.inl ⟨by rfl, ?hy_2_0⟩) (by assumption) ?rest_2_0
          case hy_2_0 => (intro w hSw; (try dsimp only at hSw); go_simp; (try (with_reducible rfl)))
          (try simp only [Act.put, List.setIfInBounds_toArray, List.set_cons_succ, List.set_cons_zero])
          refine wpAnyH_take (i := 1) (oi := { dst := some 20, op := Go.Op.move (Go.Operand.tmp 7), type := 3, pos := "ref.go:164", after := #[], guard := none }) (v := ?v_2_1) rfl (by kernel_rfl) (by kernel_rfl) (by kernel_rfl) (fun _ _ _ h => h) (Or.inl ⟨by rfl, ?hy_2_1⟩) (by assumption) ?rest_2_1
          case hy_2_1 => (intro w hSw; (try dsimp only at hSw); go_simp; (try (with_reducible rfl)))
          (try simp only [Act.put, List.setIfInBounds_toArray, List.set_cons_succ, List.set_cons_zero])
          refine wpAnyH_take (i := 2) (oi := { dst := some 21, op := Go.Op.indexAddr 27 (Go.Operand.tmp 19) (Go.Operand.tmp 20), type := 0, pos := "ref.go:164", after := #[{ on := 0, ground := Go.Ground.data }, { on := 1, ground := Go.Ground.data }], guard := none }) (v := ?v_2_2) rfl (by kernel_rfl) (by kernel_rfl) (by kernel_rfl) (fun _ _ _ h => h) (Or.inl ⟨by rfl, ?hy_2_2⟩) (by assumption) ?rest_2_2
          case hy_2_2 => (intro w hSw; (try dsimp only at hSw); go_simp; (try (with_reducible rfl)))
          (try simp only [Act.put, List.setIfInBounds_toArray, List.set_cons_succ, List.set_cons_zero])
          refine wpAnyH_take (i := 3) (oi := { dst := some 22, op := Go.Op.fieldAddr 43 (Go.Operand.tmp 21) 0, type := 0, pos := "ref.go:164", after := #[{ on := 2, ground := Go.Ground.data }], guard := none }) (v := ?v_2_3) rfl (by kernel_rfl) (by kernel_rfl) (by kernel_rfl) (fun _ _ _ h => h) (Or.inl ⟨by rfl, ?hy_2_3⟩) (by assumption) ?rest_2_3
          case hy_2_3 => (intro w hSw; (try dsimp only at hSw); go_simp; (try (with_reducible rfl)))
          (try simp only [Act.put, List.setIfInBounds_toArray, List.set_cons_succ, List.set_cons_zero])
          refine wpAnyH_take (i := 4) (oi := { dst := some 23, op := Go.Op.load 3 (Go.Operand.tmp 22), type := 3, pos := "ref.go:164", after := #[{ on := 3, ground := Go.Ground.data }], guard := none }) (v := ?v_2_4) rfl (by kernel_rfl) (by kernel_rfl) (by kernel_rfl) (fun _ _ _ h => h) (Or.inl ⟨by rfl, ?hy_2_4⟩) (by assumption) ?rest_2_4
          case hy_2_4 => (intro w hSw; (try dsimp only at hSw); go_simp; (try (with_reducible rfl)))
          (try simp only [Act.put, List.setIfInBounds_toArray, List.set_cons_succ, List.set_cons_zero])
          refine wpAnyH_take (i := 5) (oi := { dst := some 24, op := Go.Op.move (Go.Operand.tmp 1), type := 27, pos := "ref.go:164", after := #[], guard := none }) (v := ?v_2_5) rfl (by kernel_rfl) (by kernel_rfl) (by kernel_rfl) (fun _ _ _ h => h) (Or.inl ⟨by rfl, ?hy_2_5⟩) (by assumption) ?rest_2_5
          case hy_2_5 => (intro w hSw; (try dsimp only at hSw); go_simp; (try (with_reducible rfl)))
          (try simp only [Act.put, List.setIfInBounds_toArray, List.set_cons_succ, List.set_cons_zero])
          refine wpAnyH_take (i := 6) (oi := { dst := some 25, op := Go.Op.move (Go.Operand.tmp 7), type := 3, pos := "ref.go:164", after := #[], guard := none }) (v := ?v_2_6) rfl (by kernel_rfl) (by kernel_rfl) (by kernel_rfl) (fun _ _ _ h => h) (Or.inl ⟨by rfl, ?hy_2_6⟩) (by assumption) ?rest_2_6
          case hy_2_6 => (intro w hSw; (try dsimp only at hSw); go_simp; (try (with_reducible rfl)))
          (try simp only [Act.put, List.setIfInBounds_toArray, List.set_cons_succ, List.set_cons_zero])
          refine wpAnyH_take (i := 7) (oi := { dst := some 26, op := Go.Op.indexAddr 27 (Go.Operand.tmp 24) (Go.Operand.tmp 25), type := 0, pos := "ref.go:164", after := #[{ on := 5, ground := Go.Ground.data }, { on := 6, ground := Go.Ground.data }], guard := none }) (v := ?v_2_7) rfl (by kernel_rfl) (by kernel_rfl) (by kernel_rfl) (fun _ _ _ h => h) (Or.inl ⟨by rfl, ?hy_2_7⟩) (by assumption) ?rest_2_7
          case hy_2_7 => (intro w hSw; (try dsimp only at hSw); go_simp; (try (with_reducible rfl)))
          (try simp only [Act.put, List.setIfInBounds_toArray, List.set_cons_succ, List.set_cons_zero])
          refine wpAnyH_take (i := 8) (oi := { dst := some 27, op := Go.Op.fieldAddr 43 (Go.Operand.tmp 26) 0, type := 0, pos := "ref.go:164", after := #[{ on := 7, ground := Go.Ground.data }], guard := none }) (v := ?v_2_8) rfl (by kernel_rfl) (by kernel_rfl) (by kernel_rfl) (fun _ _ _ h => h) (Or.inl ⟨by rfl, ?hy_2_8⟩) (by assumption) ?rest_2_8
          case hy_2_8 => (intro w hSw; (try dsimp only at hSw); go_simp; (try (with_reducible rfl)))
          (try simp only [Act.put, List.setIfInBounds_toArray, List.set_cons_succ, List.set_cons_zero])
          refine wpAnyH_take (i := 9) (oi := { dst := some 28, op := Go.Op.load 3 (Go.Operand.tmp 27), type := 3, pos := "ref.go:164", after := #[{ on := 8, ground := Go.Ground.data }], guard := none }) (v := ?v_2_9) rfl (by kernel_rfl) (by kernel_rfl) (by kernel_rfl) (fun _ _ _ h => h) (Or.inl ⟨by rfl, ?hy_2_9⟩) (by assumption) ?rest_2_9
          case hy_2_9 => (intro w hSw; (try dsimp only at hSw); go_simp; (try (with_reducible rfl)))
          (try simp only [Act.put, List.setIfInBounds_toArray, List.set_cons_succ, List.set_cons_zero])
          refine wpAnyH_take (i := 10) (oi := { dst := some 29, op := Go.Op.binOp Go.BinOp.neq 3 (Go.Operand.tmp 23) (Go.Operand.tmp 28) 3, type := 4, pos := "ref.go:164", after := #[{ on := 4, ground := Go.Ground.data }, { on := 9, ground := Go.Ground.data }], guard := none }) (v := ?v_2_10) rfl (by kernel_rfl) (by kernel_rfl) (by kernel_rfl) (fun _ _ _ h => h) (Or.inl ⟨by rfl, ?hy_2_10⟩) (by assumption) ?rest_2_10
          case hy_2_10 => (intro w hSw; (try dsimp only at hSw); go_simp; (try (with_reducible rfl)))
          (try simp only [Act.put, List.setIfInBounds_toArray, List.set_cons_succ, List.set_cons_zero])
          refine wpAnyH_take (i := 11) (oi := { dst := some 30, op := Go.Op.move (Go.Operand.tmp 29), type := 4, pos := "ref.go:164", after := #[{ on := 10, ground := Go.Ground.data }], guard := none }) (v := ?v_2_11) rfl (by kernel_rfl) (by kernel_rfl) (by kernel_rfl) (fun _ _ _ h => h) (Or.inl ⟨by rfl, ?hy_2_11⟩) (by assumption) ?rest_2_11
          case hy_2_11 => (intro w hSw; (try dsimp only at hSw); go_simp; (try (with_reducible rfl)))
          (try simp only [Act.put, List.setIfInBounds_toArray, List.set_cons_succ, List.set_cons_zero])
          refine wpAnyH_take (i := 12) (oi := { dst := some 31, op := Go.Op.move (Go.Operand.tmp 0), type := 27, pos := "ref.go:164", after := #[{ on := 11, ground := Go.Ground.guard }], guard := some (11, false) }) (v := ?v_2_12) rfl (by kernel_rfl) (by kernel_rfl) (by kernel_rfl) (fun _ _ _ h => h) (Or.inl ⟨by rfl, ?hy_2_12⟩) (by assumption) ?rest_2_12
          case hy_2_12 => (intro w hSw; (try dsimp only at hSw); go_simp; (try (with_reducible rfl)))
          (try simp only [Act.put, List.setIfInBounds_toArray, List.set_cons_succ, List.set_cons_zero])
          refine wpAnyH_take (i := 13) (oi := { dst := some 32, op := Go.Op.move (Go.Operand.tmp 7), type := 3, pos := "ref.go:164", after := #[{ on := 11, ground := Go.Ground.guard }], guard := some (11, false) }) (v := ?v_2_13) rfl (by kernel_rfl) (by kernel_rfl) (by kernel_rfl) (fun _ _ _ h => h) (Or.inl ⟨by rfl, ?hy_2_13⟩) (by assumption) ?rest_2_13
          case hy_2_13 => (intro w hSw; (try dsimp only at hSw); go_simp; (try (with_reducible rfl)))
          (try simp only [Act.put, List.setIfInBounds_toArray, List.set_cons_succ, List.set_cons_zero])
          refine wpAnyH_take (i := 14) (oi := { dst := some 33, op := Go.Op.indexAddr 27 (Go.Operand.tmp 31) (Go.Operand.tmp 32), type := 0, pos := "ref.go:164", after := #[{ on := 12, ground := Go.Ground.data }, { on := 13, ground := Go.Ground.data }, { on := 11, ground := Go.Ground.guard }], guard := some (11, false) }) (v := ?v_2_14) rfl (by kernel_rfl) (by kernel_rfl) (by kernel_rfl) (fun _ _ _ h => h) (Or.inl ⟨by rfl, ?hy_2_14⟩) (by assumption) ?rest_2_14
          case hy_2_14 => (intro w hSw; (try dsimp only at hSw); go_simp; (try (with_reducible rfl)))
          (try simp only [Act.put, List.setIfInBounds_toArray, List.set_cons_succ, List.set_cons_zero])
          refine wpAnyH_take (i := 15) (oi := { dst := some 34, op := Go.Op.fieldAddr 43 (Go.Operand.tmp 33) 2, type := 0, pos := "ref.go:164", after := #[{ on := 14, ground := Go.Ground.data }, { on := 11, ground := Go.Ground.guard }], guard := some (11, false) }) (v := ?v_2_15) rfl (by kernel_rfl) (by kernel_rfl) (by kernel_rfl) (fun _ _ _ h => h) (Or.inl ⟨by rfl, ?hy_2_15⟩) (by assumption) ?rest_2_15
          case hy_2_15 => (intro w hSw; (try dsimp only at hSw); go_simp; (try (with_reducible rfl)))
          (try simp only [Act.put, List.setIfInBounds_toArray, List.set_cons_succ, List.set_cons_zero])
          refine wpAnyH_take (i := 16) (oi := { dst := some 35, op := Go.Op.load 9 (Go.Operand.tmp 34), type := 9, pos := "ref.go:164", after := #[{ on := 15, ground := Go.Ground.data }, { on := 11, ground := Go.Ground.guard }], guard := some (11, false) }) (v := ?v_2_16) rfl (by kernel_rfl) (by kernel_rfl) (by kernel_rfl) (fun _ _ _ h => h) (Or.inl ⟨by rfl, ?hy_2_16⟩) (by assumption) ?rest_2_16
          case hy_2_16 => (intro w hSw; (try dsimp only at hSw); go_simp; (try (with_reducible rfl)))
          (try simp only [Act.put, List.setIfInBounds_toArray, List.set_cons_succ, List.set_cons_zero])
          refine wpAnyH_take (i := 17) (oi := { dst := some 36, op := Go.Op.move (Go.Operand.tmp 1), type := 27, pos := "ref.go:164", after := #[{ on := 11, ground := Go.Ground.guard }], guard := some (11, false) }) (v := ?v_2_17) rfl (by kernel_rfl) (by kernel_rfl) (by kernel_rfl) (fun _ _ _ h => h) (Or.inl ⟨by rfl, ?hy_2_17⟩) (by assumption) ?rest_2_17
          case hy_2_17 => (intro w hSw; (try dsimp only at hSw); go_simp; (try (with_reducible rfl)))
          (try simp only [Act.put, List.setIfInBounds_toArray, List.set_cons_succ, List.set_cons_zero])
          refine wpAnyH_take (i := 18) (oi := { dst := some 37, op := Go.Op.move (Go.Operand.tmp 7), type := 3, pos := "ref.go:164", after := #[{ on := 11, ground := Go.Ground.guard }], guard := some (11, false) }) (v := ?v_2_18) rfl (by kernel_rfl) (by kernel_rfl) (by kernel_rfl) (fun _ _ _ h => h) (Or.inl ⟨by rfl, ?hy_2_18⟩) (by assumption) ?rest_2_18
          case hy_2_18 => (intro w hSw; (try dsimp only at hSw); go_simp; (try (with_reducible rfl)))
          (try simp only [Act.put, List.setIfInBounds_toArray, List.set_cons_succ, List.set_cons_zero])
          refine wpAnyH_take (i := 19) (oi := { dst := some 38, op := Go.Op.indexAddr 27 (Go.Operand.tmp 36) (Go.Operand.tmp 37), type := 0, pos := "ref.go:164", after := #[{ on := 17, ground := Go.Ground.data }, { on := 18, ground := Go.Ground.data }, { on := 11, ground := Go.Ground.guard }], guard := some (11, false) }) (v := ?v_2_19) rfl (by kernel_rfl) (by kernel_rfl) (by kernel_rfl) (fun _ _ _ h => h) (Or.inl ⟨by rfl, ?hy_2_19⟩) (by assumption) ?rest_2_19
          case hy_2_19 => (intro w hSw; (try dsimp only at hSw); go_simp; (try (with_reducible rfl)))
          (try simp only [Act.put, List.setIfInBounds_toArray, List.set_cons_succ, List.set_cons_zero])
          refine wpAnyH_take (i := 20) (oi := { dst := some 39, op := Go.Op.fieldAddr 43 (Go.Operand.tmp 38) 2, type := 0, pos := "ref.go:164", after := #[{ on := 19, ground := Go.Ground.data }, { on := 11, ground := Go.Ground.guard }], guard := some (11, false) }) (v := ?v_2_20) rfl (by kernel_rfl) (by kernel_rfl) (by kernel_rfl) (fun _ _ _ h => h) (Or.inl ⟨by rfl, ?hy_2_20⟩) (by assumption) ?rest_2_20
          case hy_2_20 => (intro w hSw; (try dsimp only at hSw); go_simp; (try (with_reducible rfl)))
          (try simp only [Act.put, List.setIfInBounds_toArray, List.set_cons_succ, List.set_cons_zero])
          refine wpAnyH_take (i := 21) (oi := { dst := some 40, op := Go.Op.load 9 (Go.Operand.tmp 39), type := 9, pos := "ref.go:164", after := #[{ on := 20, ground := Go.Ground.data }, { on := 11, ground := Go.Ground.guard }], guard := some (11, false) }) (v := ?v_2_21) rfl (by kernel_rfl) (by kernel_rfl) (by kernel_rfl) (fun _ _ _ h => h) (Or.inl ⟨by rfl, ?hy_2_21⟩) (by assumption) ?rest_2_21
          case hy_2_21 => (intro w hSw; (try dsimp only at hSw); go_simp; (try (with_reducible rfl)))
          (try simp only [Act.put, List.setIfInBounds_toArray, List.set_cons_succ, List.set_cons_zero])
          refine wpAnyH_take (i := 22) (oi := { dst := some 41, op := Go.Op.binOp Go.BinOp.neq 9 (Go.Operand.tmp 35) (Go.Operand.tmp 40) 9, type := 4, pos := "ref.go:164", after := #[{ on := 16, ground := Go.Ground.data }, { on := 21, ground := Go.Ground.data }, { on := 11, ground := Go.Ground.guard }], guard := some (11, false) }) (v := ?v_2_22) rfl (by kernel_rfl) (by kernel_rfl) (by kernel_rfl) (fun _ _ _ h => h) (Or.inl ⟨by rfl, ?hy_2_22⟩) (by assumption) ?rest_2_22
          case hy_2_22 => (intro w hSw; (try dsimp only at hSw); go_simp; (try (with_reducible rfl)))
          (try simp only [Act.put, List.setIfInBounds_toArray, List.set_cons_succ, List.set_cons_zero])
          refine wpAnyH_take (i := 23) (oi := { dst := some 42, op := Go.Op.pick (Go.Operand.tmp 30) (Go.Operand.const (Go.Value.bool true)) (Go.Operand.tmp 41), type := 4, pos := "ref.go:164", after := #[{ on := 11, ground := Go.Ground.data }, { on := 22, ground := Go.Ground.data }], guard := none }) (v := ?v_2_23) rfl (by kernel_rfl) (by kernel_rfl) (by kernel_rfl) (fun _ _ _ h => h) (Or.inl ⟨by rfl, ?hy_2_23⟩) (by assumption) ?rest_2_23
          case hy_2_23 => (intro w hSw; (try dsimp only at hSw); go_simp; (try (with_reducible rfl)))
          (try simp only [Act.put, List.setIfInBounds_toArray, List.set_cons_succ, List.set_cons_zero])
          refine wpAnyH_take (i := 24) (oi := { dst := some 43, op := Go.Op.move (Go.Operand.tmp 42), type := 4, pos := "ref.go:164", after := #[{ on := 23, ground := Go.Ground.data }, { on := 11, ground := Go.Ground.chain }], guard := none }) (v := ?v_2_24) rfl (by kernel_rfl) (by kernel_rfl) (by kernel_rfl) (fun _ _ _ h => h) (Or.inl ⟨by rfl, ?hy_2_24⟩) (by assumption) ?rest_2_24
          case hy_2_24 => (intro w hSw; (try dsimp only at hSw); go_simp; (try (with_reducible rfl)))
          (try simp only [Act.put, List.setIfInBounds_toArray, List.set_cons_succ, List.set_cons_zero])
          refine wpAnyH_take (i := 25) (oi := { dst := some 44, op := Go.Op.move (Go.Operand.tmp 2), type := 4, pos := "ref.go:164", after := #[{ on := 24, ground := Go.Ground.guard }], guard := some (24, false) }) (v := undef) rfl (by kernel_rfl) (by kernel_rfl) (by kernel_rfl) (fun _ _ _ h => h) (Or.inr ⟨by rfl, rfl⟩) (by assumption) ?rest_2_25
          (try simp only [Act.put, List.setIfInBounds_toArray, List.set_cons_succ, List.set_cons_zero])
          refine wpAnyH_take (i := 26) (oi := { dst := some 45, op := Go.Op.move (Go.Operand.tmp 44), type := 4, pos := "ref.go:164", after := #[{ on := 25, ground := Go.Ground.data }, { on := 24, ground := Go.Ground.chain }, { on := 24, ground := Go.Ground.guard }], guard := some (24, false) }) (v := undef) rfl (by kernel_rfl) (by kernel_rfl) (by kernel_rfl) (fun _ _ _ h => h) (Or.inr ⟨by rfl, rfl⟩) (by assumption) ?rest_2_26
          (try simp only [Act.put, List.setIfInBounds_toArray, List.set_cons_succ, List.set_cons_zero])
          refine wpAnyH_take (i := 27) (oi := { dst := some 46, op := Go.Op.move (Go.Operand.tmp 0), type := 27, pos := "ref.go:164", after := #[{ on := 26, ground := Go.Ground.guard }], guard := some (26, true) }) (v := undef) rfl (by kernel_rfl) (by kernel_rfl) (by kernel_rfl) (fun _ _ _ h => h) (Or.inr ⟨by rfl, rfl⟩) (by assumption) ?rest_2_27
          (try simp only [Act.put, List.setIfInBounds_toArray, List.set_cons_succ, List.set_cons_zero])
          refine wpAnyH_take (i := 28) (oi := { dst := some 47, op := Go.Op.move (Go.Operand.tmp 7), type := 3, pos := "ref.go:164", after := #[{ on := 26, ground := Go.Ground.guard }], guard := some (26, true) }) (v := undef) rfl (by kernel_rfl) (by kernel_rfl) (by kernel_rfl) (fun _ _ _ h => h) (Or.inr ⟨by rfl, rfl⟩) (by assumption) ?rest_2_28
          (try simp only [Act.put, List.setIfInBounds_toArray, List.set_cons_succ, List.set_cons_zero])
          refine wpAnyH_take (i := 29) (oi := { dst := some 48, op := Go.Op.indexAddr 27 (Go.Operand.tmp 46) (Go.Operand.tmp 47), type := 0, pos := "ref.go:164", after := #[{ on := 27, ground := Go.Ground.data }, { on := 28, ground := Go.Ground.data }, { on := 26, ground := Go.Ground.guard }], guard := some (26, true) }) (v := undef) rfl (by kernel_rfl) (by kernel_rfl) (by kernel_rfl) (fun _ _ _ h => h) (Or.inr ⟨by rfl, rfl⟩) (by assumption) ?rest_2_29
          (try simp only [Act.put, List.setIfInBounds_toArray, List.set_cons_succ, List.set_cons_zero])
          refine wpAnyH_take (i := 30) (oi := { dst := some 49, op := Go.Op.fieldAddr 43 (Go.Operand.tmp 48) 1, type := 0, pos := "ref.go:164", after := #[{ on := 29, ground := Go.Ground.data }, { on := 26, ground := Go.Ground.guard }], guard := some (26, true) }) (v := undef) rfl (by kernel_rfl) (by kernel_rfl) (by kernel_rfl) (fun _ _ _ h => h) (Or.inr ⟨by rfl, rfl⟩) (by assumption) ?rest_2_30
          (try simp only [Act.put, List.setIfInBounds_toArray, List.set_cons_succ, List.set_cons_zero])
          refine wpAnyH_take (i := 31) (oi := { dst := some 50, op := Go.Op.load 3 (Go.Operand.tmp 49), type := 3, pos := "ref.go:164", after := #[{ on := 30, ground := Go.Ground.data }, { on := 26, ground := Go.Ground.guard }], guard := some (26, true) }) (v := undef) rfl (by kernel_rfl) (by kernel_rfl) (by kernel_rfl) (fun _ _ _ h => h) (Or.inr ⟨by rfl, rfl⟩) (by assumption) ?rest_2_31
          (try simp only [Act.put, List.setIfInBounds_toArray, List.set_cons_succ, List.set_cons_zero])
          refine wpAnyH_take (i := 32) (oi := { dst := some 51, op := Go.Op.move (Go.Operand.tmp 1), type := 27, pos := "ref.go:164", after := #[{ on := 26, ground := Go.Ground.guard }], guard := some (26, true) }) (v := undef) rfl (by kernel_rfl) (by kernel_rfl) (by kernel_rfl) (fun _ _ _ h => h) (Or.inr ⟨by rfl, rfl⟩) (by assumption) ?rest_2_32
          (try simp only [Act.put, List.setIfInBounds_toArray, List.set_cons_succ, List.set_cons_zero])
          refine wpAnyH_take (i := 33) (oi := { dst := some 52, op := Go.Op.move (Go.Operand.tmp 7), type := 3, pos := "ref.go:164", after := #[{ on := 26, ground := Go.Ground.guard }], guard := some (26, true) }) (v := undef) rfl (by kernel_rfl) (by kernel_rfl) (by kernel_rfl) (fun _ _ _ h => h) (Or.inr ⟨by rfl, rfl⟩) (by assumption) ?rest_2_33
          (try simp only [Act.put, List.setIfInBounds_toArray, List.set_cons_succ, List.set_cons_zero])
          refine wpAnyH_take (i := 34) (oi := { dst := some 53, op := Go.Op.indexAddr 27 (Go.Operand.tmp 51) (Go.Operand.tmp 52), type := 0, pos := "ref.go:164", after := #[{ on := 32, ground := Go.Ground.data }, { on := 33, ground := Go.Ground.data }, { on := 26, ground := Go.Ground.guard }], guard := some (26, true) }) (v := undef) rfl (by kernel_rfl) (by kernel_rfl) (by kernel_rfl) (fun _ _ _ h => h) (Or.inr ⟨by rfl, rfl⟩) (by assumption) ?rest_2_34
          (try simp only [Act.put, List.setIfInBounds_toArray, List.set_cons_succ, List.set_cons_zero])
          refine wpAnyH_take (i := 35) (oi := { dst := some 54, op := Go.Op.fieldAddr 43 (Go.Operand.tmp 53) 1, type := 0, pos := "ref.go:164", after := #[{ on := 34, ground := Go.Ground.data }, { on := 26, ground := Go.Ground.guard }], guard := some (26, true) }) (v := undef) rfl (by kernel_rfl) (by kernel_rfl) (by kernel_rfl) (fun _ _ _ h => h) (Or.inr ⟨by rfl, rfl⟩) (by assumption) ?rest_2_35
          (try simp only [Act.put, List.setIfInBounds_toArray, List.set_cons_succ, List.set_cons_zero])
          refine wpAnyH_take (i := 36) (oi := { dst := some 55, op := Go.Op.load 3 (Go.Operand.tmp 54), type := 3, pos := "ref.go:164", after := #[{ on := 35, ground := Go.Ground.data }, { on := 26, ground := Go.Ground.guard }], guard := some (26, true) }) (v := undef) rfl (by kernel_rfl) (by kernel_rfl) (by kernel_rfl) (fun _ _ _ h => h) (Or.inr ⟨by rfl, rfl⟩) (by assumption) ?rest_2_36
          (try simp only [Act.put, List.setIfInBounds_toArray, List.set_cons_succ, List.set_cons_zero])
          refine wpAnyH_take (i := 37) (oi := { dst := some 56, op := Go.Op.binOp Go.BinOp.neq 3 (Go.Operand.tmp 50) (Go.Operand.tmp 55) 3, type := 4, pos := "ref.go:164", after := #[{ on := 31, ground := Go.Ground.data }, { on := 36, ground := Go.Ground.data }, { on := 26, ground := Go.Ground.guard }], guard := some (26, true) }) (v := undef) rfl (by kernel_rfl) (by kernel_rfl) (by kernel_rfl) (fun _ _ _ h => h) (Or.inr ⟨by rfl, rfl⟩) (by assumption) ?rest_2_37
          (try simp only [Act.put, List.setIfInBounds_toArray, List.set_cons_succ, List.set_cons_zero])
          refine wpAnyH_take (i := 38) (oi := { dst := some 57, op := Go.Op.pick (Go.Operand.tmp 45) (Go.Operand.tmp 56) (Go.Operand.const (Go.Value.bool false)), type := 4, pos := "ref.go:164", after := #[{ on := 26, ground := Go.Ground.data }, { on := 37, ground := Go.Ground.data }, { on := 24, ground := Go.Ground.guard }], guard := some (24, false) }) (v := undef) rfl (by kernel_rfl) (by kernel_rfl) (by kernel_rfl) (fun _ _ _ h => h) (Or.inr ⟨by rfl, rfl⟩) (by assumption) ?rest_2_38
          (try simp only [Act.put, List.setIfInBounds_toArray, List.set_cons_succ, List.set_cons_zero])
          refine wpAnyH_take (i := 39) (oi := { dst := some 58, op := Go.Op.pick (Go.Operand.tmp 43) (Go.Operand.const (Go.Value.bool true)) (Go.Operand.tmp 57), type := 4, pos := "ref.go:164", after := #[{ on := 24, ground := Go.Ground.data }, { on := 38, ground := Go.Ground.data }], guard := none }) (v := ?v_2_39) rfl (by kernel_rfl) (by kernel_rfl) (by kernel_rfl) (fun _ _ _ h => h) (Or.inl ⟨by rfl, ?hy_2_39⟩) (by assumption) ?rest_2_39
          case hy_2_39 => (intro w hSw; (try dsimp only at hSw); go_simp; (try (with_reducible rfl)))
          (try simp only [Act.put, List.setIfInBounds_toArray, List.set_cons_succ, List.set_cons_zero])
          refine wpAnyH_take (i := 40) (oi := { dst := some 59, op := Go.Op.move (Go.Operand.tmp 58), type := 4, pos := "ref.go:164", after := #[{ on := 39, ground := Go.Ground.data }, { on := 26, ground := Go.Ground.chain }], guard := none }) (v := ?v_2_40) rfl (by kernel_rfl) (by kernel_rfl) (by kernel_rfl) (fun _ _ _ h => h) (Or.inl ⟨by rfl, ?hy_2_40⟩) (by assumption) ?rest_2_40
          case hy_2_40 => (intro w hSw; (try dsimp only at hSw); go_simp; (try (with_reducible rfl)))
          (try simp only [Act.put, List.setIfInBounds_toArray, List.set_cons_succ, List.set_cons_zero])
          refine wpAnyH_take (i := 41) (oi := { dst := some 60, op := Go.Op.move (Go.Operand.tmp 0), type := 27, pos := "ref.go:164", after := #[{ on := 40, ground := Go.Ground.guard }], guard := some (40, false) }) (v := undef) rfl (by kernel_rfl) (by kernel_rfl) (by kernel_rfl) (fun _ _ _ h => h) (Or.inr ⟨by rfl, rfl⟩) (by assumption) ?rest_2_41
          (try simp only [Act.put, List.setIfInBounds_toArray, List.set_cons_succ, List.set_cons_zero])
          refine wpAnyH_take (i := 42) (oi := { dst := some 61, op := Go.Op.move (Go.Operand.tmp 7), type := 3, pos := "ref.go:164", after := #[{ on := 40, ground := Go.Ground.guard }], guard := some (40, false) }) (v := undef) rfl (by kernel_rfl) (by kernel_rfl) (by kernel_rfl) (fun _ _ _ h => h) (Or.inr ⟨by rfl, rfl⟩) (by assumption) ?rest_2_42
          (try simp only [Act.put, List.setIfInBounds_toArray, List.set_cons_succ, List.set_cons_zero])
          refine wpAnyH_take (i := 43) (oi := { dst := some 62, op := Go.Op.indexAddr 27 (Go.Operand.tmp 60) (Go.Operand.tmp 61), type := 0, pos := "ref.go:164", after := #[{ on := 41, ground := Go.Ground.data }, { on := 42, ground := Go.Ground.data }, { on := 40, ground := Go.Ground.guard }], guard := some (40, false) }) (v := undef) rfl (by kernel_rfl) (by kernel_rfl) (by kernel_rfl) (fun _ _ _ h => h) (Or.inr ⟨by rfl, rfl⟩) (by assumption) ?rest_2_43
          (try simp only [Act.put, List.setIfInBounds_toArray, List.set_cons_succ, List.set_cons_zero])
          refine wpAnyH_take (i := 44) (oi := { dst := some 63, op := Go.Op.fieldAddr 43 (Go.Operand.tmp 62) 3, type := 0, pos := "ref.go:164", after := #[{ on := 43, ground := Go.Ground.data }, { on := 40, ground := Go.Ground.guard }], guard := some (40, false) }) (v := undef) rfl (by kernel_rfl) (by kernel_rfl) (by kernel_rfl) (fun _ _ _ h => h) (Or.inr ⟨by rfl, rfl⟩) (by assumption) ?rest_2_44
          (try simp only [Act.put, List.setIfInBounds_toArray, List.set_cons_succ, List.set_cons_zero])
          refine wpAnyH_take (i := 45) (oi := { dst := some 64, op := Go.Op.load 27 (Go.Operand.tmp 63), type := 27, pos := "ref.go:164", after := #[{ on := 44, ground := Go.Ground.data }, { on := 40, ground := Go.Ground.guard }], guard := some (40, false) }) (v := undef) rfl (by kernel_rfl) (by kernel_rfl) (by kernel_rfl) (fun _ _ _ h => h) (Or.inr ⟨by rfl, rfl⟩) (by assumption) ?rest_2_45
          (try simp only [Act.put, List.setIfInBounds_toArray, List.set_cons_succ, List.set_cons_zero])
          refine wpAnyH_take (i := 46) (oi := { dst := some 65, op := Go.Op.move (Go.Operand.tmp 1), type := 27, pos := "ref.go:164", after := #[{ on := 40, ground := Go.Ground.guard }], guard := some (40, false) }) (v := undef) rfl (by kernel_rfl) (by kernel_rfl) (by kernel_rfl) (fun _ _ _ h => h) (Or.inr ⟨by rfl, rfl⟩) (by assumption) ?rest_2_46
          (try simp only [Act.put, List.setIfInBounds_toArray, List.set_cons_succ, List.set_cons_zero])
          refine wpAnyH_take (i := 47) (oi := { dst := some 66, op := Go.Op.move (Go.Operand.tmp 7), type := 3, pos := "ref.go:164", after := #[{ on := 40, ground := Go.Ground.guard }], guard := some (40, false) }) (v := undef) rfl (by kernel_rfl) (by kernel_rfl) (by kernel_rfl) (fun _ _ _ h => h) (Or.inr ⟨by rfl, rfl⟩) (by assumption) ?rest_2_47
          (try simp only [Act.put, List.setIfInBounds_toArray, List.set_cons_succ, List.set_cons_zero])
          refine wpAnyH_take (i := 48) (oi := { dst := some 67, op := Go.Op.indexAddr 27 (Go.Operand.tmp 65) (Go.Operand.tmp 66), type := 0, pos := "ref.go:164", after := #[{ on := 46, ground := Go.Ground.data }, { on := 47, ground := Go.Ground.data }, { on := 40, ground := Go.Ground.guard }], guard := some (40, false) }) (v := undef) rfl (by kernel_rfl) (by kernel_rfl) (by kernel_rfl) (fun _ _ _ h => h) (Or.inr ⟨by rfl, rfl⟩) (by assumption) ?rest_2_48
          (try simp only [Act.put, List.setIfInBounds_toArray, List.set_cons_succ, List.set_cons_zero])
          refine wpAnyH_take (i := 49) (oi := { dst := some 68, op := Go.Op.fieldAddr 43 (Go.Operand.tmp 67) 3, type := 0, pos := "ref.go:164", after := #[{ on := 48, ground := Go.Ground.data }, { on := 40, ground := Go.Ground.guard }], guard := some (40, false) }) (v := undef) rfl (by kernel_rfl) (by kernel_rfl) (by kernel_rfl) (fun _ _ _ h => h) (Or.inr ⟨by rfl, rfl⟩) (by assumption) ?rest_2_49
          (try simp only [Act.put, List.setIfInBounds_toArray, List.set_cons_succ, List.set_cons_zero])
          refine wpAnyH_take (i := 50) (oi := { dst := some 69, op := Go.Op.load 27 (Go.Operand.tmp 68), type := 27, pos := "ref.go:164", after := #[{ on := 49, ground := Go.Ground.data }, { on := 40, ground := Go.Ground.guard }], guard := some (40, false) }) (v := undef) rfl (by kernel_rfl) (by kernel_rfl) (by kernel_rfl) (fun _ _ _ h => h) (Or.inr ⟨by rfl, rfl⟩) (by assumption) ?rest_2_50
          (try simp only [Act.put, List.setIfInBounds_toArray, List.set_cons_succ, List.set_cons_zero])
          refine wpAnyH_take (i := 51) (oi := { dst := some 70, op := Go.Op.move (Go.Operand.tmp 2), type := 4, pos := "ref.go:164", after := #[{ on := 40, ground := Go.Ground.guard }], guard := some (40, false) }) (v := undef) rfl (by kernel_rfl) (by kernel_rfl) (by kernel_rfl) (fun _ _ _ h => h) (Or.inr ⟨by rfl, rfl⟩) (by assumption) ?rest_2_51
          (try simp only [Act.put, List.setIfInBounds_toArray, List.set_cons_succ, List.set_cons_zero])
          refine wpAnyH_take (i := 52) (oi := { dst := some 71, op := Go.Op.call { callee := Go.Callee.value (Go.Operand.func 11), args := #[Go.Operand.tmp 64, Go.Operand.tmp 69, Go.Operand.tmp 70], argTypes := #[27, 27, 4] }, type := 4, pos := "ref.go:164", after := #[{ on := 45, ground := Go.Ground.data }, { on := 50, ground := Go.Ground.data }, { on := 51, ground := Go.Ground.data }, { on := 40, ground := Go.Ground.chain }, { on := 40, ground := Go.Ground.guard }], guard := some (40, false) }) (v := undef) rfl (by kernel_rfl) (by kernel_rfl) (by kernel_rfl) (fun _ _ _ h => h) (Or.inr ⟨by rfl, rfl⟩) (by assumption) ?rest_2_52
          (try simp only [Act.put, List.setIfInBounds_toArray, List.set_cons_succ, List.set_cons_zero])
          refine wpAnyH_take (i := 53) (oi := { dst := some 72, op := Go.Op.unOp Go.UnOp.not 4 (Go.Operand.tmp 71), type := 4, pos := "ref.go:164", after := #[{ on := 52, ground := Go.Ground.data }, { on := 40, ground := Go.Ground.guard }], guard := some (40, false) }) (v := undef) rfl (by kernel_rfl) (by kernel_rfl) (by kernel_rfl) (fun _ _ _ h => h) (Or.inr ⟨by rfl, rfl⟩) (by assumption) ?rest_2_53
          (try simp only [Act.put, List.setIfInBounds_toArray, List.set_cons_succ, List.set_cons_zero])
          refine wpAnyH_take (i := 54) (oi := { dst := some 73, op := Go.Op.pick (Go.Operand.tmp 59) (Go.Operand.const (Go.Value.bool true)) (Go.Operand.tmp 72), type := 4, pos := "ref.go:164", after := #[{ on := 40, ground := Go.Ground.data }, { on := 53, ground := Go.Ground.data }], guard := none }) (v := ?v_2_54) rfl (by kernel_rfl) (by kernel_rfl) (by kernel_rfl) (fun _ _ _ h => h) (Or.inl ⟨by rfl, ?hy_2_54⟩) (by assumption) ?rest_2_54
          case hy_2_54 => (intro w hSw; (try dsimp only at hSw); go_simp; (try (with_reducible rfl)))
          (try simp only [Act.put, List.setIfInBounds_toArray, List.set_cons_succ, List.set_cons_zero])
          refine wpAnyH_done (by kernel_rfl) ?_ _

          go_wp2
          go_ret
          exact ⟨by rw [HBAD.out]; rfl, hb.drew⟩

        have f2 : (({ data := mt.toArray } : ByteArray) != { data := nt.toArray }) = false := by show (!(mt.toArray == nt.toArray)) = false; simpa using h2
        have f2' : (mt == nt) = true := by simpa using h2
        rw [f2', Bool.true_and] at hsame
        rcases pl with _ | _
        · rw [show (!false || mp == np) = true from rfl, Bool.true_and] at hsame
          go_wp2
          rcases hsm : Tree.sames false ml nl with _ | _
          · rw [hsm] at hcall hsame
            have HC := Lib.hid hcall
            have HBAD := Lib.hid (Tree.sames_bad false la lb j hjl hjl2 (by rw [hx1, hx2]; exact hsame))
            clear hcall hsame hsm hx1 hx2
            refine wp_region_held_drew (S := fun w' => w'.cell? ⟨g, o + j * 4, none⟩ = some (.int .i64 mk) ∧ w'.cell? ⟨g, o + j * 4 + 1, none⟩ = some (.int .i64 mp) ∧ w'.cell? ⟨g, o + j * 4 + 2, none⟩ = some (.string ⟨mt.toArray⟩) ∧ w'.cell? ⟨g, o + j * 4 + 3, none⟩ = some (.slice A' ml.length c') ∧ w'.cell? ⟨g2, o2 + j * 4, none⟩ = some (.int .i64 nk) ∧ w'.cell? ⟨g2, o2 + j * 4 + 1, none⟩ = some (.int .i64 np) ∧ w'.cell? ⟨g2, o2 + j * 4 + 2, none⟩ = some (.string ⟨nt.toArray⟩) ∧ w'.cell? ⟨g2, o2 + j * 4 + 3, none⟩ = some (.slice B' nl.length d')) (by kernel_rfl) ?_ (fun hHeld0 => ?_)
            · first | assumption | go_keep
            refine wpAnyH_take (i := 0) (oi := { dst := some 19, op := Go.Op.move (Go.Operand.tmp 0), type := 27, pos := "ref.go:164", after := #[], guard := none }) (v := ?v_3_0) rfl (by kernel_rfl) (by kernel_rfl) (by kernel_rfl) (fun _ _ _ h => h) (Or.inl ⟨by rfl, ?hy_3_0⟩) (by assumption) ?rest_3_0
            case hy_3_0 => (intro w hSw; (try dsimp only at hSw); go_simp; (try (with_reducible rfl)))
            (try simp only [Act.put, List.setIfInBounds_toArray, List.set_cons_succ, List.set_cons_zero])
            refine wpAnyH_take (i := 1) (oi := { dst := some 20, op := Go.Op.move (Go.Operand.tmp 7), type := 3, pos := "ref.go:164", after := #[], guard := none }) (v := ?v_3_1) rfl (by kernel_rfl) (by kernel_rfl) (by kernel_rfl) (fun _ _ _ h => h) (Or.inl ⟨by rfl, ?hy_3_1⟩) (by assumption) ?rest_3_1
            case hy_3_1 => (intro w hSw; (try dsimp only at hSw); go_simp; (try (with_reducible rfl)))
            (try simp only [Act.put, List.setIfInBounds_toArray, List.set_cons_succ, List.set_cons_zero])
            refine wpAnyH_take (i := 2) (oi := { dst := some 21, op := Go.Op.indexAddr 27 (Go.Operand.tmp 19) (Go.Operand.tmp 20), type := 0, pos := "ref.go:164", after := #[{ on := 0, ground := Go.Ground.data }, { on := 1, ground := Go.Ground.data }], guard := none }) (v := ?v_3_2) rfl (by kernel_rfl) (by kernel_rfl) (by kernel_rfl) (fun _ _ _ h => h) (Or.inl ⟨by rfl, ?hy_3_2⟩) (by assumption) ?rest_3_2
            case hy_3_2 => (intro w hSw; (try dsimp only at hSw); go_simp; (try (with_reducible rfl)))
            (try simp only [Act.put, List.setIfInBounds_toArray, List.set_cons_succ, List.set_cons_zero])
            refine wpAnyH_take (i := 3) (oi := { dst := some 22, op := Go.Op.fieldAddr 43 (Go.Operand.tmp 21) 0, type := 0, pos := "ref.go:164", after := #[{ on := 2, ground := Go.Ground.data }], guard := none }) (v := ?v_3_3) rfl (by kernel_rfl) (by kernel_rfl) (by kernel_rfl) (fun _ _ _ h => h) (Or.inl ⟨by rfl, ?hy_3_3⟩) (by assumption) ?rest_3_3
            case hy_3_3 => (intro w hSw; (try dsimp only at hSw); go_simp; (try (with_reducible rfl)))
            (try simp only [Act.put, List.setIfInBounds_toArray, List.set_cons_succ, List.set_cons_zero])
            refine wpAnyH_take (i := 4) (oi := { dst := some 23, op := Go.Op.load 3 (Go.Operand.tmp 22), type := 3, pos := "ref.go:164", after := #[{ on := 3, ground := Go.Ground.data }], guard := none }) (v := ?v_3_4) rfl (by kernel_rfl) (by kernel_rfl) (by kernel_rfl) (fun _ _ _ h => h) (Or.inl ⟨by rfl, ?hy_3_4⟩) (by assumption) ?rest_3_4
            case hy_3_4 => (intro w hSw; (try dsimp only at hSw); go_simp; (try (with_reducible rfl)))
            (try simp only [Act.put, List.setIfInBounds_toArray, List.set_cons_succ, List.set_cons_zero])
            refine wpAnyH_take (i := 5) (oi := { dst := some 24, op := Go.Op.move (Go.Operand.tmp 1), type := 27, pos := "ref.go:164", after := #[], guard := none }) (v := ?v_3_5) rfl (by kernel_rfl) (by kernel_rfl) (by kernel_rfl) (fun _ _ _ h => h) (Or.inl ⟨by rfl, ?hy_3_5⟩) (by assumption) ?rest_3_5
            case hy_3_5 => (intro w hSw; (try dsimp only at hSw); go_simp; (try (with_reducible rfl)))
            (try simp only [Act.put, List.setIfInBounds_toArray, List.set_cons_succ, List.set_cons_zero])
            refine wpAnyH_take (i := 6) (oi := { dst := some 25, op := Go.Op.move (Go.Operand.tmp 7), type := 3, pos := "ref.go:164", after := #[], guard := none }) (v := ?v_3_6) rfl (by kernel_rfl) (by kernel_rfl) (by kernel_rfl) (fun _ _ _ h => h) (Or.inl ⟨by rfl, ?hy_3_6⟩) (by assumption) ?rest_3_6
            case hy_3_6 => (intro w hSw; (try dsimp only at hSw); go_simp; (try (with_reducible rfl)))
            (try simp only [Act.put, List.setIfInBounds_toArray, List.set_cons_succ, List.set_cons_zero])
            refine wpAnyH_take (i := 7) (oi := { dst := some 26, op := Go.Op.indexAddr 27 (Go.Operand.tmp 24) (Go.Operand.tmp 25), type := 0, pos := "ref.go:164", after := #[{ on := 5, ground := Go.Ground.data }, { on := 6, ground := Go.Ground.data }], guard := none }) (v := ?v_3_7) rfl (by kernel_rfl) (by kernel_rfl) (by kernel_rfl) (fun _ _ _ h => h) (Or.inl ⟨by rfl, ?hy_3_7⟩) (by assumption) ?rest_3_7
            case hy_3_7 => (intro w hSw; (try dsimp only at hSw); go_simp; (try (with_reducible rfl)))
            (try simp only [Act.put, List.setIfInBounds_toArray, List.set_cons_succ, List.set_cons_zero])
            refine wpAnyH_take (i := 8) (oi := { dst := some 27, op := Go.Op.fieldAddr 43 (Go.Operand.tmp 26) 0, type := 0, pos := "ref.go:164", after := #[{ on := 7, ground := Go.Ground.data }], guard := none }) (v := ?v_3_8) rfl (by kernel_rfl) (by kernel_rfl) (by kernel_rfl) (fun _ _ _ h => h) (Or.inl ⟨by rfl, ?hy_3_8⟩) (by assumption) ?rest_3_8
            case hy_3_8 => (intro w hSw; (try dsimp only at hSw); go_simp; (try (with_reducible rfl)))
            (try simp only [Act.put, List.setIfInBounds_toArray, List.set_cons_succ, List.set_cons_zero])
            refine wpAnyH_take (i := 9) (oi := { dst := some 28, op := Go.Op.load 3 (Go.Operand.tmp 27), type := 3, pos := "ref.go:164", after := #[{ on := 8, ground := Go.Ground.data }], guard := none }) (v := ?v_3_9) rfl (by kernel_rfl) (by kernel_rfl) (by kernel_rfl) (fun _ _ _ h => h) (Or.inl ⟨by rfl, ?hy_3_9⟩) (by assumption) ?rest_3_9
            case hy_3_9 => (intro w hSw; (try dsimp only at hSw); go_simp; (try (with_reducible rfl)))
            (try simp only [Act.put, List.setIfInBounds_toArray, List.set_cons_succ, List.set_cons_zero])
            refine wpAnyH_take (i := 10) (oi := { dst := some 29, op := Go.Op.binOp Go.BinOp.neq 3 (Go.Operand.tmp 23) (Go.Operand.tmp 28) 3, type := 4, pos := "ref.go:164", after := #[{ on := 4, ground := Go.Ground.data }, { on := 9, ground := Go.Ground.data }], guard := none }) (v := ?v_3_10) rfl (by kernel_rfl) (by kernel_rfl) (by kernel_rfl) (fun _ _ _ h => h) (Or.inl ⟨by rfl, ?hy_3_10⟩) (by assumption) ?rest_3_10
            case hy_3_10 => (intro w hSw; (try dsimp only at hSw); go_simp; (try (with_reducible rfl)))
            (try simp only [Act.put, List.setIfInBounds_toArray, List.set_cons_succ, List.set_cons_zero])
            refine wpAnyH_take (i := 11) (oi := { dst := some 30, op := Go.Op.move (Go.Operand.tmp 29), type := 4, pos := "ref.go:164", after := #[{ on := 10, ground := Go.Ground.data }], guard := none }) (v := ?v_3_11) rfl (by kernel_rfl) (by kernel_rfl) (by kernel_rfl) (fun _ _ _ h => h) (Or.inl ⟨by rfl, ?hy_3_11⟩) (by assumption) ?rest_3_11
            case hy_3_11 => (intro w hSw; (try dsimp only at hSw); go_simp; (try (with_reducible rfl)))
            (try simp only [Act.put, List.setIfInBounds_toArray, List.set_cons_succ, List.set_cons_zero])
            refine wpAnyH_take (i := 12) (oi := { dst := some 31, op := Go.Op.move (Go.Operand.tmp 0), type := 27, pos := "ref.go:164", after := #[{ on := 11, ground := Go.Ground.guard }], guard := some (11, false) }) (v := ?v_3_12) rfl (by kernel_rfl) (by kernel_rfl) (by kernel_rfl) (fun _ _ _ h => h) (Or.inl ⟨by rfl, ?hy_3_12⟩) (by assumption) ?rest_3_12
            case hy_3_12 => (intro w hSw; (try dsimp only at hSw); go_simp; (try (with_reducible rfl)))
            (try simp only [Act.put, List.setIfInBounds_toArray, List.set_cons_succ, List.set_cons_zero])
            refine wpAnyH_take (i := 13) (oi := { dst := some 32, op := Go.Op.move (Go.Operand.tmp 7), type := 3, pos := "ref.go:164", after := #[{ on := 11, ground := Go.Ground.guard }], guard := some (11, false) }) (v := ?v_3_13) rfl (by kernel_rfl) (by kernel_rfl) (by kernel_rfl) (fun _ _ _ h => h) (Or.inl ⟨by rfl, ?hy_3_13⟩) (by assumption) ?rest_3_13
            case hy_3_13 => (intro w hSw; (try dsimp only at hSw); go_simp; (try (with_reducible rfl)))
            (try simp only [Act.put, List.setIfInBounds_toArray, List.set_cons_succ, List.set_cons_zero])
            refine wpAnyH_take (i := 14) (oi := { dst := some 33, op := Go.Op.indexAddr 27 (Go.Operand.tmp 31) (Go.Operand.tmp 32), type := 0, pos := "ref.go:164", after := #[{ on := 12, ground := Go.Ground.data }, { on := 13, ground := Go.Ground.data }, { on := 11, ground := Go.Ground.guard }], guard := some (11, false) }) (v := ?v_3_14) rfl (by kernel_rfl) (by kernel_rfl) (by kernel_rfl) (fun _ _ _ h => h) (Or.inl ⟨by rfl, ?hy_3_14⟩) (by assumption) ?rest_3_14
            case hy_3_14 => (intro w hSw; (try dsimp only at hSw); go_simp; (try (with_reducible rfl)))
            (try simp only [Act.put, List.setIfInBounds_toArray, List.set_cons_succ, List.set_cons_zero])
            refine wpAnyH_take (i := 15) (oi := { dst := some 34, op := Go.Op.fieldAddr 43 (Go.Operand.tmp 33) 2, type := 0, pos := "ref.go:164", after := #[{ on := 14, ground := Go.Ground.data }, { on := 11, ground := Go.Ground.guard }], guard := some (11, false) }) (v := ?v_3_15) rfl (by kernel_rfl) (by kernel_rfl) (by kernel_rfl) (fun _ _ _ h => h) (Or.inl ⟨by rfl, ?hy_3_15⟩) (by assumption) ?rest_3_15
            case hy_3_15 => (intro w hSw; (try dsimp only at hSw); go_simp; (try (with_reducible rfl)))
            (try simp only [Act.put, List.setIfInBounds_toArray, List.set_cons_succ, List.set_cons_zero])
            refine wpAnyH_take (i := 16) (oi := { dst := some 35, op := Go.Op.load 9 (Go.Operand.tmp 34), type := 9, pos := "ref.go:164", after := #[{ on := 15, ground := Go.Ground.data }, { on := 11, ground := Go.Ground.guard }], guard := some (11, false) }) (v := ?v_3_16) rfl (by kernel_rfl) (by kernel_rfl) (by kernel_rfl) (fun _ _ _ h => h) (Or.inl ⟨by rfl, ?hy_3_16⟩) (by assumption) ?rest_3_16
            case hy_3_16 => (intro w hSw; (try dsimp only at hSw); go_simp; (try (with_reducible rfl)))
            (try simp only [Act.put, List.setIfInBounds_toArray, List.set_cons_succ, List.set_cons_zero])
            refine wpAnyH_take (i := 17) (oi := { dst := some 36, op := Go.Op.move (Go.Operand.tmp 1), type := 27, pos := "ref.go:164", after := #[{ on := 11, ground := Go.Ground.guard }], guard := some (11, false) }) (v := ?v_3_17) rfl (by kernel_rfl) (by kernel_rfl) (by kernel_rfl) (fun _ _ _ h => h) (Or.inl ⟨by rfl, ?hy_3_17⟩) (by assumption) ?rest_3_17
            case hy_3_17 => (intro w hSw; (try dsimp only at hSw); go_simp; (try (with_reducible rfl)))
            (try simp only [Act.put, List.setIfInBounds_toArray, List.set_cons_succ, List.set_cons_zero])
            refine wpAnyH_take (i := 18) (oi := { dst := some 37, op := Go.Op.move (Go.Operand.tmp 7), type := 3, pos := "ref.go:164", after := #[{ on := 11, ground := Go.Ground.guard }], guard := some (11, false) }) (v := ?v_3_18) rfl (by kernel_rfl) (by kernel_rfl) (by kernel_rfl) (fun _ _ _ h => h) (Or.inl ⟨by rfl, ?hy_3_18⟩) (by assumption) ?rest_3_18
            case hy_3_18 => (intro w hSw; (try dsimp only at hSw); go_simp; (try (with_reducible rfl)))
            (try simp only [Act.put, List.setIfInBounds_toArray, List.set_cons_succ, List.set_cons_zero])
            refine wpAnyH_take (i := 19) (oi := { dst := some 38, op := Go.Op.indexAddr 27 (Go.Operand.tmp 36) (Go.Operand.tmp 37), type := 0, pos := "ref.go:164", after := #[{ on := 17, ground := Go.Ground.data }, { on := 18, ground := Go.Ground.data }, { on := 11, ground := Go.Ground.guard }], guard := some (11, false) }) (v := ?v_3_19) rfl (by kernel_rfl) (by kernel_rfl) (by kernel_rfl) (fun _ _ _ h => h) (Or.inl ⟨by rfl, ?hy_3_19⟩) (by assumption) ?rest_3_19
            case hy_3_19 => (intro w hSw; (try dsimp only at hSw); go_simp; (try (with_reducible rfl)))
            (try simp only [Act.put, List.setIfInBounds_toArray, List.set_cons_succ, List.set_cons_zero])
            refine wpAnyH_take (i := 20) (oi := { dst := some 39, op := Go.Op.fieldAddr 43 (Go.Operand.tmp 38) 2, type := 0, pos := "ref.go:164", after := #[{ on := 19, ground := Go.Ground.data }, { on := 11, ground := Go.Ground.guard }], guard := some (11, false) }) (v := ?v_3_20) rfl (by kernel_rfl) (by kernel_rfl) (by kernel_rfl) (fun _ _ _ h => h) (Or.inl ⟨by rfl, ?hy_3_20⟩) (by assumption) ?rest_3_20
            case hy_3_20 => (intro w hSw; (try dsimp only at hSw); go_simp; (try (with_reducible rfl)))
            (try simp only [Act.put, List.setIfInBounds_toArray, List.set_cons_succ, List.set_cons_zero])
            refine wpAnyH_take (i := 21) (oi := { dst := some 40, op := Go.Op.load 9 (Go.Operand.tmp 39), type := 9, pos := "ref.go:164", after := #[{ on := 20, ground := Go.Ground.data }, { on := 11, ground := Go.Ground.guard }], guard := some (11, false) }) (v := ?v_3_21) rfl (by kernel_rfl) (by kernel_rfl) (by kernel_rfl) (fun _ _ _ h => h) (Or.inl ⟨by rfl, ?hy_3_21⟩) (by assumption) ?rest_3_21
            case hy_3_21 => (intro w hSw; (try dsimp only at hSw); go_simp; (try (with_reducible rfl)))
            (try simp only [Act.put, List.setIfInBounds_toArray, List.set_cons_succ, List.set_cons_zero])
            refine wpAnyH_take (i := 22) (oi := { dst := some 41, op := Go.Op.binOp Go.BinOp.neq 9 (Go.Operand.tmp 35) (Go.Operand.tmp 40) 9, type := 4, pos := "ref.go:164", after := #[{ on := 16, ground := Go.Ground.data }, { on := 21, ground := Go.Ground.data }, { on := 11, ground := Go.Ground.guard }], guard := some (11, false) }) (v := ?v_3_22) rfl (by kernel_rfl) (by kernel_rfl) (by kernel_rfl) (fun _ _ _ h => h) (Or.inl ⟨by rfl, ?hy_3_22⟩) (by assumption) ?rest_3_22
            case hy_3_22 => (intro w hSw; (try dsimp only at hSw); go_simp; (try (with_reducible rfl)))
            (try simp only [Act.put, List.setIfInBounds_toArray, List.set_cons_succ, List.set_cons_zero])
            refine wpAnyH_take (i := 23) (oi := { dst := some 42, op := Go.Op.pick (Go.Operand.tmp 30) (Go.Operand.const (Go.Value.bool true)) (Go.Operand.tmp 41), type := 4, pos := "ref.go:164", after := #[{ on := 11, ground := Go.Ground.data }, { on := 22, ground := Go.Ground.data }], guard := none }) (v := ?v_3_23) rfl (by kernel_rfl) (by kernel_rfl) (by kernel_rfl) (fun _ _ _ h => h) (Or.inl ⟨by rfl, ?hy_3_23⟩) (by assumption) ?rest_3_23
            case hy_3_23 => (intro w hSw; (try dsimp only at hSw); go_simp; (try (with_reducible rfl)))
            (try simp only [Act.put, List.setIfInBounds_toArray, List.set_cons_succ, List.set_cons_zero])
            refine wpAnyH_take (i := 24) (oi := { dst := some 43, op := Go.Op.move (Go.Operand.tmp 42), type := 4, pos := "ref.go:164", after := #[{ on := 23, ground := Go.Ground.data }, { on := 11, ground := Go.Ground.chain }], guard := none }) (v := ?v_3_24) rfl (by kernel_rfl) (by kernel_rfl) (by kernel_rfl) (fun _ _ _ h => h) (Or.inl ⟨by rfl, ?hy_3_24⟩) (by assumption) ?rest_3_24
            case hy_3_24 => (intro w hSw; (try dsimp only at hSw); go_simp; (try (with_reducible rfl)))
            (try simp only [Act.put, List.setIfInBounds_toArray, List.set_cons_succ, List.set_cons_zero])
            refine wpAnyH_take (i := 25) (oi := { dst := some 44, op := Go.Op.move (Go.Operand.tmp 2), type := 4, pos := "ref.go:164", after := #[{ on := 24, ground := Go.Ground.guard }], guard := some (24, false) }) (v := ?v_3_25) rfl (by kernel_rfl) (by kernel_rfl) (by kernel_rfl) (fun _ _ _ h => h) (Or.inl ⟨by rfl, ?hy_3_25⟩) (by assumption) ?rest_3_25
            case hy_3_25 => (intro w hSw; (try dsimp only at hSw); go_simp; (try (with_reducible rfl)))
            (try simp only [Act.put, List.setIfInBounds_toArray, List.set_cons_succ, List.set_cons_zero])
            refine wpAnyH_take (i := 26) (oi := { dst := some 45, op := Go.Op.move (Go.Operand.tmp 44), type := 4, pos := "ref.go:164", after := #[{ on := 25, ground := Go.Ground.data }, { on := 24, ground := Go.Ground.chain }, { on := 24, ground := Go.Ground.guard }], guard := some (24, false) }) (v := ?v_3_26) rfl (by kernel_rfl) (by kernel_rfl) (by kernel_rfl) (fun _ _ _ h => h) (Or.inl ⟨by rfl, ?hy_3_26⟩) (by assumption) ?rest_3_26
            case hy_3_26 => (intro w hSw; (try dsimp only at hSw); go_simp; (try (with_reducible rfl)))
            (try simp only [Act.put, List.setIfInBounds_toArray, List.set_cons_succ, List.set_cons_zero])
            refine wpAnyH_take (i := 27) (oi := { dst := some 46, op := Go.Op.move (Go.Operand.tmp 0), type := 27, pos := "ref.go:164", after := #[{ on := 26, ground := Go.Ground.guard }], guard := some (26, true) }) (v := undef) rfl (by kernel_rfl) (by kernel_rfl) (by kernel_rfl) (fun _ _ _ h => h) (Or.inr ⟨by rfl, rfl⟩) (by assumption) ?rest_3_27
            (try simp only [Act.put, List.setIfInBounds_toArray, List.set_cons_succ, List.set_cons_zero])
            refine wpAnyH_take (i := 28) (oi := { dst := some 47, op := Go.Op.move (Go.Operand.tmp 7), type := 3, pos := "ref.go:164", after := #[{ on := 26, ground := Go.Ground.guard }], guard := some (26, true) }) (v := undef) rfl (by kernel_rfl) (by kernel_rfl) (by kernel_rfl) (fun _ _ _ h => h) (Or.inr ⟨by rfl, rfl⟩) (by assumption) ?rest_3_28
            (try simp only [Act.put, List.setIfInBounds_toArray, List.set_cons_succ, List.set_cons_zero])
            refine wpAnyH_take (i := 29) (oi := { dst := some 48, op := Go.Op.indexAddr 27 (Go.Operand.tmp 46) (Go.Operand.tmp 47), type := 0, pos := "ref.go:164", after := #[{ on := 27, ground := Go.Ground.data }, { on := 28, ground := Go.Ground.data }, { on := 26, ground := Go.Ground.guard }], guard := some (26, true) }) (v := undef) rfl (by kernel_rfl) (by kernel_rfl) (by kernel_rfl) (fun _ _ _ h => h) (Or.inr ⟨by rfl, rfl⟩) (by assumption) ?rest_3_29
            (try simp only [Act.put, List.setIfInBounds_toArray, List.set_cons_succ, List.set_cons_zero])
            refine wpAnyH_take (i := 30) (oi := { dst := some 49, op := Go.Op.fieldAddr 43 (Go.Operand.tmp 48) 1, type := 0, pos := "ref.go:164", after := #[{ on := 29, ground := Go.Ground.data }, { on := 26, ground := Go.Ground.guard }], guard := some (26, true) }) (v := undef) rfl (by kernel_rfl) (by kernel_rfl) (by kernel_rfl) (fun _ _ _ h => h) (Or.inr ⟨by rfl, rfl⟩) (by assumption) ?rest_3_30
            (try simp only [Act.put, List.setIfInBounds_toArray, List.set_cons_succ, List.set_cons_zero])
            refine wpAnyH_take (i := 31) (oi := { dst := some 50, op := Go.Op.load 3 (Go.Operand.tmp 49), type := 3, pos := "ref.go:164", after := #[{ on := 30, ground := Go.Ground.data }, { on := 26, ground := Go.Ground.guard }], guard := some (26, true) }) (v := undef) rfl (by kernel_rfl) (by kernel_rfl) (by kernel_rfl) (fun _ _ _ h => h) (Or.inr ⟨by rfl, rfl⟩) (by assumption) ?rest_3_31
            (try simp only [Act.put, List.setIfInBounds_toArray, List.set_cons_succ, List.set_cons_zero])
            refine wpAnyH_take (i := 32) (oi := { dst := some 51, op := Go.Op.move (Go.Operand.tmp 1), type := 27, pos := "ref.go:164", after := #[{ on := 26, ground := Go.Ground.guard }], guard := some (26, true) }) (v := undef) rfl (by kernel_rfl) (by kernel_rfl) (by kernel_rfl) (fun _ _ _ h => h) (Or.inr ⟨by rfl, rfl⟩) (by assumption) ?rest_3_32
            (try simp only [Act.put, List.setIfInBounds_toArray, List.set_cons_succ, List.set_cons_zero])
            refine wpAnyH_take (i := 33) (oi := { dst := some 52, op := Go.Op.move (Go.Operand.tmp 7), type := 3, pos := "ref.go:164", after := #[{ on := 26, ground := Go.Ground.guard }], guard := some (26, true) }) (v := undef) rfl (by kernel_rfl) (by kernel_rfl) (by kernel_rfl) (fun _ _ _ h => h) (Or.inr ⟨by rfl, rfl⟩) (by assumption) ?rest_3_33
            (try simp only [Act.put, List.setIfInBounds_toArray, List.set_cons_succ, List.set_cons_zero])
            refine wpAnyH_take (i := 34) (oi := { dst := some 53, op := Go.Op.indexAddr 27 (Go.Operand.tmp 51) (Go.Operand.tmp 52), type := 0, pos := "ref.go:164", after := #[{ on := 32, ground := Go.Ground.data }, { on := 33, ground := Go.Ground.data }, { on := 26, ground := Go.Ground.guard }], guard := some (26, true) }) (v := undef) rfl (by kernel_rfl) (by kernel_rfl) (by kernel_rfl) (fun _ _ _ h => h) (Or.inr ⟨by rfl, rfl⟩) (by assumption) ?rest_3_34
            (try simp only [Act.put, List.setIfInBounds_toArray, List.set_cons_succ, List.set_cons_zero])
            refine wpAnyH_take (i := 35) (oi := { dst := some 54, op := Go.Op.fieldAddr 43 (Go.Operand.tmp 53) 1, type := 0, pos := "ref.go:164", after := #[{ on := 34, ground := Go.Ground.data }, { on := 26, ground := Go.Ground.guard }], guard := some (26, true) }) (v := undef) rfl (by kernel_rfl) (by kernel_rfl) (by kernel_rfl) (fun _ _ _ h => h) (Or.inr ⟨by rfl, rfl⟩) (by assumption) ?rest_3_35
            (try simp only [Act.put, List.setIfInBounds_toArray, List.set_cons_succ, List.set_cons_zero])
            refine wpAnyH_take (i := 36) (oi := { dst := some 55, op := Go.Op.load 3 (Go.Operand.tmp 54), type := 3, pos := "ref.go:164", after := #[{ on := 35, ground := Go.Ground.data }, { on := 26, ground := Go.Ground.guard }], guard := some (26, true) }) (v := undef) rfl (by kernel_rfl) (by kernel_rfl) (by kernel_rfl) (fun _ _ _ h => h) (Or.inr ⟨by rfl, rfl⟩) (by assumption) ?rest_3_36
            (try simp only [Act.put, List.setIfInBounds_toArray, List.set_cons_succ, List.set_cons_zero])
            refine wpAnyH_take (i := 37) (oi := { dst := some 56, op := Go.Op.binOp Go.BinOp.neq 3 (Go.Operand.tmp 50) (Go.Operand.tmp 55) 3, type := 4, pos := "ref.go:164", after := #[{ on := 31, ground := Go.Ground.data }, { on := 36, ground := Go.Ground.data }, { on := 26, ground := Go.Ground.guard }], guard := some (26, true) }) (v := undef) rfl (by kernel_rfl) (by kernel_rfl) (by kernel_rfl) (fun _ _ _ h => h) (Or.inr ⟨by rfl, rfl⟩) (by assumption) ?rest_3_37
            (try simp only [Act.put, List.setIfInBounds_toArray, List.set_cons_succ, List.set_cons_zero])
            refine wpAnyH_take (i := 38) (oi := { dst := some 57, op := Go.Op.pick (Go.Operand.tmp 45) (Go.Operand.tmp 56) (Go.Operand.const (Go.Value.bool false)), type := 4, pos := "ref.go:164", after := #[{ on := 26, ground := Go.Ground.data }, { on := 37, ground := Go.Ground.data }, { on := 24, ground := Go.Ground.guard }], guard := some (24, false) }) (v := ?v_3_38) rfl (by kernel_rfl) (by kernel_rfl) (by kernel_rfl) (fun _ _ _ h => h) (Or.inl ⟨by rfl, ?hy_3_38⟩) (by assumption) ?rest_3_38
            case hy_3_38 => (intro w hSw; (try dsimp only at hSw); go_simp; (try (with_reducible rfl)))
            (try simp only [Act.put, List.setIfInBounds_toArray, List.set_cons_succ, List.set_cons_zero])
            refine wpAnyH_take (i := 39) (oi := { dst := some 58, op := Go.Op.pick (Go.Operand.tmp 43) (Go.Operand.const (Go.Value.bool true)) (Go.Operand.tmp 57), type := 4, pos := "ref.go:164", after := #[{ on := 24, ground := Go.Ground.data }, { on := 38, ground := Go.Ground.data }], guard := none }) (v := ?v_3_39) rfl (by kernel_rfl) (by kernel_rfl) (by kernel_rfl) (fun _ _ _ h => h) (Or.inl ⟨by rfl, ?hy_3_39⟩) (by assumption) ?rest_3_39
            case hy_3_39 => (intro w hSw; (try dsimp only at hSw); go_simp; (try (with_reducible rfl)))
            (try simp only [Act.put, List.setIfInBounds_toArray, List.set_cons_succ, List.set_cons_zero])
            refine wpAnyH_take (i := 40) (oi := { dst := some 59, op := Go.Op.move (Go.Operand.tmp 58), type := 4, pos := "ref.go:164", after := #[{ on := 39, ground := Go.Ground.data }, { on := 26, ground := Go.Ground.chain }], guard := none }) (v := ?v_3_40) rfl (by kernel_rfl) (by kernel_rfl) (by kernel_rfl) (fun _ _ _ h => h) (Or.inl ⟨by rfl, ?hy_3_40⟩) (by assumption) ?rest_3_40
            case hy_3_40 => (intro w hSw; (try dsimp only at hSw); go_simp; (try (with_reducible rfl)))
            (try simp only [Act.put, List.setIfInBounds_toArray, List.set_cons_succ, List.set_cons_zero])
            refine wpAnyH_take (i := 41) (oi := { dst := some 60, op := Go.Op.move (Go.Operand.tmp 0), type := 27, pos := "ref.go:164", after := #[{ on := 40, ground := Go.Ground.guard }], guard := some (40, false) }) (v := ?v_3_41) rfl (by kernel_rfl) (by kernel_rfl) (by kernel_rfl) (fun _ _ _ h => h) (Or.inl ⟨by rfl, ?hy_3_41⟩) (by assumption) ?rest_3_41
            case hy_3_41 => (intro w hSw; (try dsimp only at hSw); go_simp; (try (with_reducible rfl)))
            (try simp only [Act.put, List.setIfInBounds_toArray, List.set_cons_succ, List.set_cons_zero])
            refine wpAnyH_take (i := 42) (oi := { dst := some 61, op := Go.Op.move (Go.Operand.tmp 7), type := 3, pos := "ref.go:164", after := #[{ on := 40, ground := Go.Ground.guard }], guard := some (40, false) }) (v := ?v_3_42) rfl (by kernel_rfl) (by kernel_rfl) (by kernel_rfl) (fun _ _ _ h => h) (Or.inl ⟨by rfl, ?hy_3_42⟩) (by assumption) ?rest_3_42
            case hy_3_42 => (intro w hSw; (try dsimp only at hSw); go_simp; (try (with_reducible rfl)))
            (try simp only [Act.put, List.setIfInBounds_toArray, List.set_cons_succ, List.set_cons_zero])
            refine wpAnyH_take (i := 43) (oi := { dst := some 62, op := Go.Op.indexAddr 27 (Go.Operand.tmp 60) (Go.Operand.tmp 61), type := 0, pos := "ref.go:164", after := #[{ on := 41, ground := Go.Ground.data }, { on := 42, ground := Go.Ground.data }, { on := 40, ground := Go.Ground.guard }], guard := some (40, false) }) (v := ?v_3_43) rfl (by kernel_rfl) (by kernel_rfl) (by kernel_rfl) (fun _ _ _ h => h) (Or.inl ⟨by rfl, ?hy_3_43⟩) (by assumption) ?rest_3_43
            case hy_3_43 => (intro w hSw; (try dsimp only at hSw); go_simp; (try (with_reducible rfl)))
            (try simp only [Act.put, List.setIfInBounds_toArray, List.set_cons_succ, List.set_cons_zero])
            refine wpAnyH_take (i := 44) (oi := { dst := some 63, op := Go.Op.fieldAddr 43 (Go.Operand.tmp 62) 3, type := 0, pos := "ref.go:164", after := #[{ on := 43, ground := Go.Ground.data }, { on := 40, ground := Go.Ground.guard }], guard := some (40, false) }) (v := ?v_3_44) rfl (by kernel_rfl) (by kernel_rfl) (by kernel_rfl) (fun _ _ _ h => h) (Or.inl ⟨by rfl, ?hy_3_44⟩) (by assumption) ?rest_3_44
            case hy_3_44 => (intro w hSw; (try dsimp only at hSw); go_simp; (try (with_reducible rfl)))
            (try simp only [Act.put, List.setIfInBounds_toArray, List.set_cons_succ, List.set_cons_zero])
            refine wpAnyH_take (i := 45) (oi := { dst := some 64, op := Go.Op.load 27 (Go.Operand.tmp 63), type := 27, pos := "ref.go:164", after := #[{ on := 44, ground := Go.Ground.data }, { on := 40, ground := Go.Ground.guard }], guard := some (40, false) }) (v := ?v_3_45) rfl (by kernel_rfl) (by kernel_rfl) (by kernel_rfl) (fun _ _ _ h => h) (Or.inl ⟨by rfl, ?hy_3_45⟩) (by assumption) ?rest_3_45
            case hy_3_45 => (intro w hSw; (try dsimp only at hSw); go_simp; (try (with_reducible rfl)))
            (try simp only [Act.put, List.setIfInBounds_toArray, List.set_cons_succ, List.set_cons_zero])
            refine wpAnyH_take (i := 46) (oi := { dst := some 65, op := Go.Op.move (Go.Operand.tmp 1), type := 27, pos := "ref.go:164", after := #[{ on := 40, ground := Go.Ground.guard }], guard := some (40, false) }) (v := ?v_3_46) rfl (by kernel_rfl) (by kernel_rfl) (by kernel_rfl) (fun _ _ _ h => h) (Or.inl ⟨by rfl, ?hy_3_46⟩) (by assumption) ?rest_3_46
            case hy_3_46 => (intro w hSw; (try dsimp only at hSw); go_simp; (try (with_reducible rfl)))
            (try simp only [Act.put, List.setIfInBounds_toArray, List.set_cons_succ, List.set_cons_zero])
            refine wpAnyH_take (i := 47) (oi := { dst := some 66, op := Go.Op.move (Go.Operand.tmp 7), type := 3, pos := "ref.go:164", after := #[{ on := 40, ground := Go.Ground.guard }], guard := some (40, false) }) (v := ?v_3_47) rfl (by kernel_rfl) (by kernel_rfl) (by kernel_rfl) (fun _ _ _ h => h) (Or.inl ⟨by rfl, ?hy_3_47⟩) (by assumption) ?rest_3_47
            case hy_3_47 => (intro w hSw; (try dsimp only at hSw); go_simp; (try (with_reducible rfl)))
            (try simp only [Act.put, List.setIfInBounds_toArray, List.set_cons_succ, List.set_cons_zero])
            refine wpAnyH_take (i := 48) (oi := { dst := some 67, op := Go.Op.indexAddr 27 (Go.Operand.tmp 65) (Go.Operand.tmp 66), type := 0, pos := "ref.go:164", after := #[{ on := 46, ground := Go.Ground.data }, { on := 47, ground := Go.Ground.data }, { on := 40, ground := Go.Ground.guard }], guard := some (40, false) }) (v := ?v_3_48) rfl (by kernel_rfl) (by kernel_rfl) (by kernel_rfl) (fun _ _ _ h => h) (Or.inl ⟨by rfl, ?hy_3_48⟩) (by assumption) ?rest_3_48
            case hy_3_48 => (intro w hSw; (try dsimp only at hSw); go_simp; (try (with_reducible rfl)))
            (try simp only [Act.put, List.setIfInBounds_toArray, List.set_cons_succ, List.set_cons_zero])
            refine wpAnyH_take (i := 49) (oi := { dst := some 68, op := Go.Op.fieldAddr 43 (Go.Operand.tmp 67) 3, type := 0, pos := "ref.go:164", after := #[{ on := 48, ground := Go.Ground.data }, { on := 40, ground := Go.Ground.guard }], guard := some (40, false) }) (v := ?v_3_49) rfl (by kernel_rfl) (by kernel_rfl) (by kernel_rfl) (fun _ _ _ h => h) (Or.inl ⟨by rfl, ?hy_3_49⟩) (by assumption) ?rest_3_49
            case hy_3_49 => (intro w hSw; (try dsimp only at hSw); go_simp; (try (with_reducible rfl)))
            (try simp only [Act.put, List.setIfInBounds_toArray, List.set_cons_succ, List.set_cons_zero])
            refine wpAnyH_take (i := 50) (oi := { dst := some 69, op := Go.Op.load 27 (Go.Operand.tmp 68), type := 27, pos := "ref.go:164", after := #[{ on := 49, ground := Go.Ground.data }, { on := 40, ground := Go.Ground.guard }], guard := some (40, false) }) (v := ?v_3_50) rfl (by kernel_rfl) (by kernel_rfl) (by kernel_rfl) (fun _ _ _ h => h) (Or.inl ⟨by rfl, ?hy_3_50⟩) (by assumption) ?rest_3_50
            case hy_3_50 => (intro w hSw; (try dsimp only at hSw); go_simp; (try (with_reducible rfl)))
            (try simp only [Act.put, List.setIfInBounds_toArray, List.set_cons_succ, List.set_cons_zero])
            refine wpAnyH_take (i := 51) (oi := { dst := some 70, op := Go.Op.move (Go.Operand.tmp 2), type := 4, pos := "ref.go:164", after := #[{ on := 40, ground := Go.Ground.guard }], guard := some (40, false) }) (v := ?v_3_51) rfl (by kernel_rfl) (by kernel_rfl) (by kernel_rfl) (fun _ _ _ h => h) (Or.inl ⟨by rfl, ?hy_3_51⟩) (by assumption) ?rest_3_51
            case hy_3_51 => (intro w hSw; (try dsimp only at hSw); go_simp; (try (with_reducible rfl)))
            (try simp only [Act.put, List.setIfInBounds_toArray, List.set_cons_succ, List.set_cons_zero])
            refine wpAnyH_ready (rs := [52]) (by kernel_rfl) (by simp) ?_
            refine AllReadyH.cons (o := { dst := some 71, op := Go.Op.call { callee := Go.Callee.value (Go.Operand.func 11), args := #[Go.Operand.tmp 64, Go.Operand.tmp 69, Go.Operand.tmp 70], argTypes := #[27, 27, 4] }, type := 4, pos := "ref.go:164", after := #[{ on := 45, ground := Go.Ground.data }, { on := 50, ground := Go.Ground.data }, { on := 51, ground := Go.Ground.data }, { on := 40, ground := Go.Ground.chain }, { on := 40, ground := Go.Ground.guard }], guard := some (40, false) }) rfl (fun K hK => ?_) AllReadyH.nil
            go_simp
            (go_at_call 11; refine (HC.out.mono ?_); rintro e w2 ⟨rfl, hb2⟩; have y0 := (hb2.cell (p := ⟨g, o + j * 4, none⟩) (show g < wr.drew.heap.size from hgl2)).trans d0; have y1 := (hb2.cell (p := ⟨g, o + j * 4 + 1, none⟩) (show g < wr.drew.heap.size from hgl2)).trans d1; have y2 := (hb2.cell (p := ⟨g, o + j * 4 + 2, none⟩) (show g < wr.drew.heap.size from hgl2)).trans d2; have y3 := (hb2.cell (p := ⟨g, o + j * 4 + 3, none⟩) (show g < wr.drew.heap.size from hgl2)).trans d3; have z0 := (hb2.cell (p := ⟨g2, o2 + j * 4, none⟩) (show g2 < wr.drew.heap.size from hhl2)).trans e0; have z1 := (hb2.cell (p := ⟨g2, o2 + j * 4 + 1, none⟩) (show g2 < wr.drew.heap.size from hhl2)).trans e1; have z2 := (hb2.cell (p := ⟨g2, o2 + j * 4 + 2, none⟩) (show g2 < wr.drew.heap.size from hhl2)).trans e2; have z3 := (hb2.cell (p := ⟨g2, o2 + j * 4 + 3, none⟩) (show g2 < wr.drew.heap.size from hhl2)).trans e3; have hb3 : Below w.heap.size w w2 := hb.drew.trans (hb2.mono hb.size))
            (try dsimp only)
            refine hK.out _ _ ?_ (fun hHeld1 => ?_)
            · (try dsimp only); first | assumption | trivial | go_keep
            clear hK K hHeld0
            (try simp only [Act.put, List.setIfInBounds_toArray, List.set_cons_succ, List.set_cons_zero])
            refine wpAnyH_take (i := 53) (oi := { dst := some 72, op := Go.Op.unOp Go.UnOp.not 4 (Go.Operand.tmp 71), type := 4, pos := "ref.go:164", after := #[{ on := 52, ground := Go.Ground.data }, { on := 40, ground := Go.Ground.guard }], guard := some (40, false) }) (v := ?v_3_53) rfl (by kernel_rfl) (by kernel_rfl) (by kernel_rfl) (fun _ _ _ h => h) (Or.inl ⟨by rfl, ?hy_3_53⟩) (by assumption) ?rest_3_53
            case hy_3_53 => (intro w hSw; (try dsimp only at hSw); go_simp; (try (with_reducible rfl)))
            (try simp only [Act.put, List.setIfInBounds_toArray, List.set_cons_succ, List.set_cons_zero])
            refine wpAnyH_take (i := 54) (oi := { dst := some 73, op := Go.Op.pick (Go.Operand.tmp 59) (Go.Operand.const (Go.Value.bool true)) (Go.Operand.tmp 72), type := 4, pos := "ref.go:164", after := #[{ on := 40, ground := Go.Ground.data }, { on := 53, ground := Go.Ground.data }], guard := none }) (v := ?v_3_54) rfl (by kernel_rfl) (by kernel_rfl) (by kernel_rfl) (fun _ _ _ h => h) (Or.inl ⟨by rfl, ?hy_3_54⟩) (by assumption) ?rest_3_54
            case hy_3_54 => (intro w hSw; (try dsimp only at hSw); go_simp; (try (with_reducible rfl)))
            (try simp only [Act.put, List.setIfInBounds_toArray, List.set_cons_succ, List.set_cons_zero])
            refine wpAnyH_done (by kernel_rfl) ?_ _
            go_wp2
            go_ret
            exact ⟨by rw [HBAD.out]; rfl, hb3⟩
          · rw [hsm] at hcall hsame
            have HC := Lib.hid hcall
            have hall2 : ∀ i (h1 : i < la.length) (h2 : i < lb.length), i < j + 1 → Tree.same false la[i] lb[i] = true := by
              intro i h1 h2 h3
              rcases Nat.lt_or_ge i j with h4 | h4
              · exact hall i h1 h2 h4
              · obtain rfl : i = j := by omega
                rw [hx1, hx2]; exact hsame
            have HA := Lib.hid hall2
            clear hcall hsame hsm hx1 hx2 hall hall2
            refine wp_region_held_drew (S := fun w' => w'.cell? ⟨g, o + j * 4, none⟩ = some (.int .i64 mk) ∧ w'.cell? ⟨g, o + j * 4 + 1, none⟩ = some (.int .i64 mp) ∧ w'.cell? ⟨g, o + j * 4 + 2, none⟩ = some (.string ⟨mt.toArray⟩) ∧ w'.cell? ⟨g, o + j * 4 + 3, none⟩ = some (.slice A' ml.length c') ∧ w'.cell? ⟨g2, o2 + j * 4, none⟩ = some (.int .i64 nk) ∧ w'.cell? ⟨g2, o2 + j * 4 + 1, none⟩ = some (.int .i64 np) ∧ w'.cell? ⟨g2, o2 + j * 4 + 2, none⟩ = some (.string ⟨nt.toArray⟩) ∧ w'.cell? ⟨g2, o2 + j * 4 + 3, none⟩ = some (.slice B' nl.length d')) (by kernel_rfl) ?_ (fun hHeld0 => ?_)
            · first | assumption | go_keep
            refine wpAnyH_take (i := 0) (oi := { dst := some 19, op := Go.Op.move (Go.Operand.tmp 0), type := 27, pos := "ref.go:164", after := #[], guard := none }) (v := ?v_4_0) rfl (by kernel_rfl) (by kernel_rfl) (by kernel_rfl) (fun _ _ _ h => h) (Or.inl ⟨by rfl, ?hy_4_0⟩) (by assumption) ?rest_4_0
            case hy_4_0 => (intro w hSw; (try dsimp only at hSw); go_simp; (try (with_reducible rfl)))
            (try simp only [Act.put, List.setIfInBounds_toArray, List.set_cons_succ, List.set_cons_zero])
            refine wpAnyH_take (i := 1) (oi := { dst := some 20, op := Go.Op.move (Go.Operand.tmp 7), type := 3, pos := "ref.go:164", after := #[], guard := none }) (v := ?v_4_1) rfl (by kernel_rfl) (by kernel_rfl) (by kernel_rfl) (fun _ _ _ h => h) (Or.inl ⟨by rfl, ?hy_4_1⟩) (by assumption) ?rest_4_1
            case hy_4_1 => (intro w hSw; (try dsimp only at hSw); go_simp; (try (with_reducible rfl)))
            (try simp only [Act.put, List.setIfInBounds_toArray, List.set_cons_succ, List.set_cons_zero])
            refine wpAnyH_take (i := 2) (oi := { dst := some 21, op := Go.Op.indexAddr 27 (Go.Operand.tmp 19) (Go.Operand.tmp 20), type := 0, pos := "ref.go:164", after := #[{ on := 0, ground := Go.Ground.data }, { on := 1, ground := Go.Ground.data }], guard := none }) (v := ?v_4_2) rfl (by kernel_rfl) (by kernel_rfl) (by kernel_rfl) (fun _ _ _ h => h) (Or.inl ⟨by rfl, ?hy_4_2⟩) (by assumption) ?rest_4_2
            case hy_4_2 => (intro w hSw; (try dsimp only at hSw); go_simp; (try (with_reducible rfl)))
            (try simp only [Act.put, List.setIfInBounds_toArray, List.set_cons_succ, List.set_cons_zero])
            refine wpAnyH_take (i := 3) (oi := { dst := some 22, op := Go.Op.fieldAddr 43 (Go.Operand.tmp 21) 0, type := 0, pos := "ref.go:164", after := #[{ on := 2, ground := Go.Ground.data }], guard := none }) (v := ?v_4_3) rfl (by kernel_rfl) (by kernel_rfl) (by kernel_rfl) (fun _ _ _ h => h) (Or.inl ⟨by rfl, ?hy_4_3⟩) (by assumption) ?rest_4_3
            case hy_4_3 => (intro w hSw; (try dsimp only at hSw); go_simp; (try (with_reducible rfl)))
            (try simp only [Act.put, List.setIfInBounds_toArray, List.set_cons_succ, List.set_cons_zero])
            refine wpAnyH_take (i := 4) (oi := { dst := some 23, op := Go.Op.load 3 (Go.Operand.tmp 22), type := 3, pos := "ref.go:164", after := #[{ on := 3, ground := Go.Ground.data }], guard := none }) (v := ?v_4_4) rfl (by kernel_rfl) (by kernel_rfl) (by kernel_rfl) (fun _ _ _ h => h) (Or.inl ⟨by rfl, ?hy_4_4⟩) (by assumption) ?rest_4_4
            case hy_4_4 => (intro w hSw; (try dsimp only at hSw); go_simp; (try (with_reducible rfl)))
            (try simp only [Act.put, List.setIfInBounds_toArray, List.set_cons_succ, List.set_cons_zero])
            refine wpAnyH_take (i := 5) (oi := { dst := some 24, op := Go.Op.move (Go.Operand.tmp 1), type := 27, pos := "ref.go:164", after := #[], guard := none }) (v := ?v_4_5) rfl (by kernel_rfl) (by kernel_rfl) (by kernel_rfl) (fun _ _ _ h => h) (Or.inl ⟨by rfl, ?hy_4_5⟩) (by assumption) ?rest_4_5
            case hy_4_5 => (intro w hSw; (try dsimp only at hSw); go_simp; (try (with_reducible rfl)))
            (try simp only [Act.put, List.setIfInBounds_toArray, List.set_cons_succ, List.set_cons_zero])
            refine wpAnyH_take (i := 6) (oi := { dst := some 25, op := Go.Op.move (Go.Operand.tmp 7), type := 3, pos := "ref.go:164", after := #[], guard := none }) (v := ?v_4_6) rfl (by kernel_rfl) (by kernel_rfl) (by kernel_rfl) (fun _ _ _ h => h) (Or.inl ⟨by rfl, ?hy_4_6⟩) (by assumption) ?rest_4_6
            case hy_4_6 => (intro w hSw; (try dsimp only at hSw); go_simp; (try (with_reducible rfl)))
            (try simp only [Act.put, List.setIfInBounds_toArray, List.set_cons_succ, List.set_cons_zero])
            refine wpAnyH_take (i := 7) (oi := { dst := some 26, op := Go.Op.indexAddr 27 (Go.Operand.tmp 24) (Go.Operand.tmp 25), type := 0, pos := "ref.go:164", after := #[{ on := 5, ground := Go.Ground.data }, { on := 6, ground := Go.Ground.data }], guard := none }) (v := ?v_4_7) rfl (by kernel_rfl) (by kernel_rfl) (by kernel_rfl) (fun _ _ _ h => h) (Or.inl ⟨by rfl, ?hy_4_7⟩) (by assumption) ?rest_4_7
            case hy_4_7 => (intro w hSw; (try dsimp only at hSw); go_simp; (try (with_reducible rfl)))
            (try simp only [Act.put, List.setIfInBounds_toArray, List.set_cons_succ, List.set_cons_zero])
            refine wpAnyH_take (i := 8) (oi := { dst := some 27, op := Go.Op.fieldAddr 43 (Go.Operand.tmp 26) 0, type := 0, pos := "ref.go:164", after := #[{ on := 7, ground := Go.Ground.data }], guard := none }) (v := ?v_4_8) rfl (by kernel_rfl) (by kernel_rfl) (by kernel_rfl) (fun _ _ _ h => h) (Or.inl ⟨by rfl, ?hy_4_8⟩) (by assumption) ?rest_4_8
            case hy_4_8 => (intro w hSw; (try dsimp only at hSw); go_simp; (try (with_reducible rfl)))
            (try simp only [Act.put, List.setIfInBounds_toArray, List.set_cons_succ, List.set_cons_zero])
            refine wpAnyH_take (i := 9) (oi := { dst := some 28, op := Go.Op.load 3 (Go.Operand.tmp 27), type := 3, pos := "ref.go:164", after := #[{ on := 8, ground := Go.Ground.data }], guard := none }) (v := ?v_4_9) rfl (by kernel_rfl) (by kernel_rfl) (by kernel_rfl) (fun _ _ _ h => h) (Or.inl ⟨by rfl, ?hy_4_9⟩) (by assumption) ?rest_4_9
            case hy_4_9 => (intro w hSw; (try dsimp only at hSw); go_simp; (try (with_reducible rfl)))
            (try simp only [Act.put, List.setIfInBounds_toArray, List.set_cons_succ, List.set_cons_zero])
            refine wpAnyH_take (i := 10) (oi := { dst := some 29, op := Go.Op.binOp Go.BinOp.neq 3 (Go.Operand.tmp 23) (Go.Operand.tmp 28) 3, type := 4, pos := "ref.go:164", after := #[{ on := 4, ground := Go.Ground.data }, { on := 9, ground := Go.Ground.data }], guard := none }) (v := ?v_4_10) rfl (by kernel_rfl) (by kernel_rfl) (by kernel_rfl) (fun _ _ _ h => h) (Or.inl ⟨by rfl, ?hy_4_10⟩) (by assumption) ?rest_4_10
            case hy_4_10 => (intro w hSw; (try dsimp only at hSw); go_simp; (try (with_reducible rfl)))
            (try simp only [Act.put, List.setIfInBounds_toArray, List.set_cons_succ, List.set_cons_zero])
            refine wpAnyH_take (i := 11) (oi := { dst := some 30, op := Go.Op.move (Go.Operand.tmp 29), type := 4, pos := "ref.go:164", after := #[{ on := 10, ground := Go.Ground.data }], guard := none }) (v := ?v_4_11) rfl (by kernel_rfl) (by kernel_rfl) (by kernel_rfl) (fun _ _ _ h => h) (Or.inl ⟨by rfl, ?hy_4_11⟩) (by assumption) ?rest_4_11
            case hy_4_11 => (intro w hSw; (try dsimp only at hSw); go_simp; (try (with_reducible rfl)))
            (try simp only [Act.put, List.setIfInBounds_toArray, List.set_cons_succ, List.set_cons_zero])
            refine wpAnyH_take (i := 12) (oi := { dst := some 31, op := Go.Op.move (Go.Operand.tmp 0), type := 27, pos := "ref.go:164", after := #[{ on := 11, ground := Go.Ground.guard }], guard := some (11, false) }) (v := ?v_4_12) rfl (by kernel_rfl) (by kernel_rfl) (by kernel_rfl) (fun _ _ _ h => h) (Or.inl ⟨by rfl, ?hy_4_12⟩) (by assumption) ?rest_4_12
            case hy_4_12 => (intro w hSw; (try dsimp only at hSw); go_simp; (try (with_reducible rfl)))
            (try simp only [Act.put, List.setIfInBounds_toArray, List.set_cons_succ, List.set_cons_zero])
            refine wpAnyH_take (i := 13) (oi := { dst := some 32, op := Go.Op.move (Go.Operand.tmp 7), type := 3, pos := "ref.go:164", after := #[{ on := 11, ground := Go.Ground.guard }], guard := some (11, false) }) (v := ?v_4_13) rfl (by kernel_rfl) (by kernel_rfl) (by kernel_rfl) (fun _ _ _ h => h) (Or.inl ⟨by rfl, ?hy_4_13⟩) (by assumption) ?rest_4_13
            case hy_4_13 => (intro w hSw; (try dsimp only at hSw); go_simp; (try (with_reducible rfl)))
            (try simp only [Act.put, List.setIfInBounds_toArray, List.set_cons_succ, List.set_cons_zero])
            refine wpAnyH_take (i := 14) (oi := { dst := some 33, op := Go.Op.indexAddr 27 (Go.Operand.tmp 31) (Go.Operand.tmp 32), type := 0, pos := "ref.go:164", after := #[{ on := 12, ground := Go.Ground.data }, { on := 13, ground := Go.Ground.data }, { on := 11, ground := Go.Ground.guard }], guard := some (11, false) }) (v := ?v_4_14) rfl (by kernel_rfl) (by kernel_rfl) (by kernel_rfl) (fun _ _ _ h => h) (Or.inl ⟨by rfl, ?hy_4_14⟩) (by assumption) ?rest_4_14
            case hy_4_14 => (intro w hSw; (try dsimp only at hSw); go_simp; (try (with_reducible rfl)))
            (try simp only [Act.put, List.setIfInBounds_toArray, List.set_cons_succ, List.set_cons_zero])
            refine wpAnyH_take (i := 15) (oi := { dst := some 34, op := Go.Op.fieldAddr 43 (Go.Operand.tmp 33) 2, type := 0, pos := "ref.go:164", after := #[{ on := 14, ground := Go.Ground.data }, { on := 11, ground := Go.Ground.guard }], guard := some (11, false) }) (v := ?v_4_15) rfl (by kernel_rfl) (by kernel_rfl) (by kernel_rfl) (fun _ _ _ h => h) (Or.inl ⟨by rfl, ?hy_4_15⟩) (by assumption) ?rest_4_15
            case hy_4_15 => (intro w hSw; (try dsimp only at hSw); go_simp; (try (with_reducible rfl)))
            (try simp only [Act.put, List.setIfInBounds_toArray, List.set_cons_succ, List.set_cons_zero])
            refine wpAnyH_take (i := 16) (oi := { dst := some 35, op := Go.Op.load 9 (Go.Operand.tmp 34), type := 9, pos := "ref.go:164", after := #[{ on := 15, ground := Go.Ground.data }, { on := 11, ground := Go.Ground.guard }], guard := some (11, false) }) (v := ?v_4_16) rfl (by kernel_rfl) (by kernel_rfl) (by kernel_rfl) (fun _ _ _ h => h) (Or.inl ⟨by rfl, ?hy_4_16⟩) (by assumption) ?rest_4_16
            case hy_4_16 => (intro w hSw; (try dsimp only at hSw); go_simp; (try (with_reducible rfl)))
            (try simp only [Act.put, List.setIfInBounds_toArray, List.set_cons_succ, List.set_cons_zero])
            refine wpAnyH_take (i := 17) (oi := { dst := some 36, op := Go.Op.move (Go.Operand.tmp 1), type := 27, pos := "ref.go:164", after := #[{ on := 11, ground := Go.Ground.guard }], guard := some (11, false) }) (v := ?v_4_17) rfl (by kernel_rfl) (by kernel_rfl) (by kernel_rfl) (fun _ _ _ h => h) (Or.inl ⟨by rfl, ?hy_4_17⟩) (by assumption) ?rest_4_17
            case hy_4_17 => (intro w hSw; (try dsimp only at hSw); go_simp; (try (with_reducible rfl)))
            (try simp only [Act.put, List.setIfInBounds_toArray, List.set_cons_succ, List.set_cons_zero])
            refine wpAnyH_take (i := 18) (oi := { dst := some 37, op := Go.Op.move (Go.Operand.tmp 7), type := 3, pos := "ref.go:164", after := #[{ on := 11, ground := Go.Ground.guard }], guard := some (11, false) }) (v := ?v_4_18) rfl (by kernel_rfl) (by kernel_rfl) (by kernel_rfl) (fun _ _ _ h => h) (Or.inl ⟨by rfl, ?hy_4_18⟩) (by assumption) ?rest_4_18
            case hy_4_18 => (intro w hSw; (try dsimp only at hSw); go_simp; (try (with_reducible rfl)))
            (try simp only [Act.put, List.setIfInBounds_toArray, List.set_cons_succ, List.set_cons_zero])
            refine wpAnyH_take (i := 19) (oi := { dst := some 38, op := Go.Op.indexAddr 27 (Go.Operand.tmp 36) (Go.Operand.tmp 37), type := 0, pos := "ref.go:164", after := #[{ on := 17, ground := Go.Ground.data }, { on := 18, ground := Go.Ground.data }, { on := 11, ground := Go.Ground.guard }], guard := some (11, false) }) (v := ?v_4_19) rfl (by kernel_rfl) (by kernel_rfl) (by kernel_rfl) (fun _ _ _ h => h) (Or.inl ⟨by rfl, ?hy_4_19⟩) (by assumption) ?rest_4_19
            case hy_4_19 => (intro w hSw; (try dsimp only at hSw); go_simp; (try (with_reducible rfl)))
            (try simp only [Act.put, List.setIfInBounds_toArray, List.set_cons_succ, List.set_cons_zero])
            refine wpAnyH_take (i := 20) (oi := { dst := some 39, op := Go.Op.fieldAddr 43 (Go.Operand.tmp 38) 2, type := 0, pos := "ref.go:164", after := #[{ on := 19, ground := Go.Ground.data }, { on := 11, ground := Go.Ground.guard }], guard := some (11, false) }) (v := ?v_4_20) rfl (by kernel_rfl) (by kernel_rfl) (by kernel_rfl) (fun _ _ _ h => h) (Or.inl ⟨by rfl, ?hy_4_20⟩) (by assumption) ?rest_4_20
            case hy_4_20 => (intro w hSw; (try dsimp only at hSw); go_simp; (try (with_reducible rfl)))
            (try simp only [Act.put, List.setIfInBounds_toArray, List.set_cons_succ, List.set_cons_zero])
            refine wpAnyH_take (i := 21) (oi := { dst := some 40, op := Go.Op.load 9 (Go.Operand.tmp 39), type := 9, pos := "ref.go:164", after := #[{ on := 20, ground := Go.Ground.data }, { on := 11, ground := Go.Ground.guard }], guard := some (11, false) }) (v := ?v_4_21) rfl (by kernel_rfl) (by kernel_rfl) (by kernel_rfl) (fun _ _ _ h => h) (Or.inl ⟨by rfl, ?hy_4_21⟩) (by assumption) ?rest_4_21
            case hy_4_21 => (intro w hSw; (try dsimp only at hSw); go_simp; (try (with_reducible rfl)))
            (try simp only [Act.put, List.setIfInBounds_toArray, List.set_cons_succ, List.set_cons_zero])
            refine wpAnyH_take (i := 22) (oi := { dst := some 41, op := Go.Op.binOp Go.BinOp.neq 9 (Go.Operand.tmp 35) (Go.Operand.tmp 40) 9, type := 4, pos := "ref.go:164", after := #[{ on := 16, ground := Go.Ground.data }, { on := 21, ground := Go.Ground.data }, { on := 11, ground := Go.Ground.guard }], guard := some (11, false) }) (v := ?v_4_22) rfl (by kernel_rfl) (by kernel_rfl) (by kernel_rfl) (fun _ _ _ h => h) (Or.inl ⟨by rfl, ?hy_4_22⟩) (by assumption) ?rest_4_22
            case hy_4_22 => (intro w hSw; (try dsimp only at hSw); go_simp; (try (with_reducible rfl)))
            (try simp only [Act.put, List.setIfInBounds_toArray, List.set_cons_succ, List.set_cons_zero])
            refine wpAnyH_take (i := 23) (oi := { dst := some 42, op := Go.Op.pick (Go.Operand.tmp 30) (Go.Operand.const (Go.Value.bool true)) (Go.Operand.tmp 41), type := 4, pos := "ref.go:164", after := #[{ on := 11, ground := Go.Ground.data }, { on := 22, ground := Go.Ground.data }], guard := none }) (v := ?v_4_23) rfl (by kernel_rfl) (by kernel_rfl) (by kernel_rfl) (fun _ _ _ h => h) (Or.inl ⟨by rfl, ?hy_4_23⟩) (by assumption) ?rest_4_23
            case hy_4_23 => (intro w hSw; (try dsimp only at hSw); go_simp; (try (with_reducible rfl)))
            (try simp only [Act.put, List.setIfInBounds_toArray, List.set_cons_succ, List.set_cons_zero])
            refine wpAnyH_take (i := 24) (oi := { dst := some 43, op := Go.Op.move (Go.Operand.tmp 42), type := 4, pos := "ref.go:164", after := #[{ on := 23, ground := Go.Ground.data }, { on := 11, ground := Go.Ground.chain }], guard := none }) (v := ?v_4_24) rfl (by kernel_rfl) (by kernel_rfl) (by kernel_rfl) (fun _ _ _ h => h) (Or.inl ⟨by rfl, ?hy_4_24⟩) (by assumption) ?rest_4_24
            case hy_4_24 => (intro w hSw; (try dsimp only at hSw); go_simp; (try (with_reducible rfl)))
            (try simp only [Act.put, List.setIfInBounds_toArray, List.set_cons_succ, List.set_cons_zero])
            refine wpAnyH_take (i := 25) (oi := { dst := some 44, op := Go.Op.move (Go.Operand.tmp 2), type := 4, pos := "ref.go:164", after := #[{ on := 24, ground := Go.Ground.guard }], guard := some (24, false) }) (v := ?v_4_25) rfl (by kernel_rfl) (by kernel_rfl) (by kernel_rfl) (fun _ _ _ h => h) (Or.inl ⟨by rfl, ?hy_4_25⟩) (by assumption) ?rest_4_25
            case hy_4_25 => (intro w hSw; (try dsimp only at hSw); go_simp; (try (with_reducible rfl)))
            (try simp only [Act.put, List.setIfInBounds_toArray, List.set_cons_succ, List.set_cons_zero])
            refine wpAnyH_take (i := 26) (oi := { dst := some 45, op := Go.Op.move (Go.Operand.tmp 44), type := 4, pos := "ref.go:164", after := #[{ on := 25, ground := Go.Ground.data }, { on := 24, ground := Go.Ground.chain }, { on := 24, ground := Go.Ground.guard }], guard := some (24, false) }) (v := ?v_4_26) rfl (by kernel_rfl) (by kernel_rfl) (by kernel_rfl) (fun _ _ _ h => h) (Or.inl ⟨by rfl, ?hy_4_26⟩) (by assumption) ?rest_4_26
            case hy_4_26 => (intro w hSw; (try dsimp only at hSw); go_simp; (try (with_reducible rfl)))
            (try simp only [Act.put, List.setIfInBounds_toArray, List.set_cons_succ, List.set_cons_zero])
            refine wpAnyH_take (i := 27) (oi := { dst := some 46, op := Go.Op.move (Go.Operand.tmp 0), type := 27, pos := "ref.go:164", after := #[{ on := 26, ground := Go.Ground.guard }], guard := some (26, true) }) (v := undef) rfl (by kernel_rfl) (by kernel_rfl) (by kernel_rfl) (fun _ _ _ h => h) (Or.inr ⟨by rfl, rfl⟩) (by assumption) ?rest_4_27
            (try simp only [Act.put, List.setIfInBounds_toArray, List.set_cons_succ, List.set_cons_zero])
            refine wpAnyH_take (i := 28) (oi := { dst := some 47, op := Go.Op.move (Go.Operand.tmp 7), type := 3, pos := "ref.go:164", after := #[{ on := 26, ground := Go.Ground.guard }], guard := some (26, true) }) (v := undef) rfl (by kernel_rfl) (by kernel_rfl) (by kernel_rfl) (fun _ _ _ h => h) (Or.inr ⟨by rfl, rfl⟩) (by assumption) ?rest_4_28
            (try simp only [Act.put, List.setIfInBounds_toArray, List.set_cons_succ, List.set_cons_zero])
            refine wpAnyH_take (i := 29) (oi := { dst := some 48, op := Go.Op.indexAddr 27 (Go.Operand.tmp 46) (Go.Operand.tmp 47), type := 0, pos := "ref.go:164", after := #[{ on := 27, ground := Go.Ground.data }, { on := 28, ground := Go.Ground.data }, { on := 26, ground := Go.Ground.guard }], guard := some (26, true) }) (v := undef) rfl (by kernel_rfl) (by kernel_rfl) (by kernel_rfl) (fun _ _ _ h => h) (Or.inr ⟨by rfl, rfl⟩) (by assumption) ?rest_4_29
            (try simp only [Act.put, List.setIfInBounds_toArray, List.set_cons_succ, List.set_cons_zero])
            refine wpAnyH_take (i := 30) (oi := { dst := some 49, op := Go.Op.fieldAddr 43 (Go.Operand.tmp 48) 1, type := 0, pos := "ref.go:164", after := #[{ on := 29, ground := Go.Ground.data }, { on := 26, ground := Go.Ground.guard }], guard := some (26, true) }) (v := undef) rfl (by kernel_rfl) (by kernel_rfl) (by kernel_rfl) (fun _ _ _ h => h) (Or.inr ⟨by rfl, rfl⟩) (by assumption) ?rest_4_30
            (try simp only [Act.put, List.setIfInBounds_toArray, List.set_cons_succ, List.set_cons_zero])
            refine wpAnyH_take (i := 31) (oi := { dst := some 50, op := Go.Op.load 3 (Go.Operand.tmp 49), type := 3, pos := "ref.go:164", after := #[{ on := 30, ground := Go.Ground.data }, { on := 26, ground := Go.Ground.guard }], guard := some (26, true) }) (v := undef) rfl (by kernel_rfl) (by kernel_rfl) (by kernel_rfl) (fun _ _ _ h => h) (Or.inr ⟨by rfl, rfl⟩) (by assumption) ?rest_4_31
            (try simp only [Act.put, List.setIfInBounds_toArray, List.set_cons_succ, List.set_cons_zero])
            refine wpAnyH_take (i := 32) (oi := { dst := some 51, op := Go.Op.move (Go.Operand.tmp 1), type := 27, pos := "ref.go:164", after := #[{ on := 26, ground := Go.Ground.guard }], guard := some (26, true) }) (v := undef) rfl (by kernel_rfl) (by kernel_rfl) (by kernel_rfl) (fun _ _ _ h => h) (Or.inr ⟨by rfl, rfl⟩) (by assumption) ?rest_4_32
            (try simp only [Act.put, List.setIfInBounds_toArray, List.set_cons_succ, List.set_cons_zero])
            refine wpAnyH_take (i := 33) (oi := { dst := some 52, op := Go.Op.move (Go.Operand.tmp 7), type := 3, pos := "ref.go:164", after := #[{ on := 26, ground := Go.Ground.guard }], guard := some (26, true) }) (v := undef) rfl (by kernel_rfl) (by kernel_rfl) (by kernel_rfl) (fun _ _ _ h => h) (Or.inr ⟨by rfl, rfl⟩) (by assumption) ?rest_4_33
            (try simp only [Act.put, List.setIfInBounds_toArray, List.set_cons_succ, List.set_cons_zero])
            refine wpAnyH_take (i := 34) (oi := { dst := some 53, op := Go.Op.indexAddr 27 (Go.Operand.tmp 51) (Go.Operand.tmp 52), type := 0, pos := "ref.go:164", after := #[{ on := 32, ground := Go.Ground.data }, { on := 33, ground := Go.Ground.data }, { on := 26, ground := Go.Ground.guard }], guard := some (26, true) }) (v := undef) rfl (by kernel_rfl) (by kernel_rfl) (by kernel_rfl) (fun _ _ _ h => h) (Or.inr ⟨by rfl, rfl⟩) (by assumption) ?rest_4_34
            (try simp only [Act.put, List.setIfInBounds_toArray, List.set_cons_succ, List.set_cons_zero])
            refine wpAnyH_take (i := 35) (oi := { dst := some 54, op := Go.Op.fieldAddr 43 (Go.Operand.tmp 53) 1, type := 0, pos := "ref.go:164", after := #[{ on := 34, ground := Go.Ground.data }, { on := 26, ground := Go.Ground.guard }], guard := some (26, true) }) (v := undef) rfl (by kernel_rfl) (by kernel_rfl) (by kernel_rfl) (fun _ _ _ h => h) (Or.inr ⟨by rfl, rfl⟩) (by assumption) ?rest_4_35
            (try simp only [Act.put, List.setIfInBounds_toArray, List.set_cons_succ, List.set_cons_zero])
            refine wpAnyH_take (i := 36) (oi := { dst := some 55, op := Go.Op.load 3 (Go.Operand.tmp 54), type := 3, pos := "ref.go:164", after := #[{ on := 35, ground := Go.Ground.data }, { on := 26, ground := Go.Ground.guard }], guard := some (26, true) }) (v := undef) rfl (by kernel_rfl) (by kernel_rfl) (by kernel_rfl) (fun _ _ _ h => h) (Or.inr ⟨by rfl, rfl⟩) (by assumption) ?rest_4_36
            (try simp only [Act.put, List.setIfInBounds_toArray, List.set_cons_succ, List.set_cons_zero])
            refine wpAnyH_take (i := 37) (oi := { dst := some 56, op := Go.Op.binOp Go.BinOp.neq 3 (Go.Operand.tmp 50) (Go.Operand.tmp 55) 3, type := 4, pos := "ref.go:164", after := #[{ on := 31, ground := Go.Ground.data }, { on := 36, ground := Go.Ground.data }, { on := 26, ground := Go.Ground.guard }], guard := some (26, true) }) (v := undef) rfl (by kernel_rfl) (by kernel_rfl) (by kernel_rfl) (fun _ _ _ h => h) (Or.inr ⟨by rfl, rfl⟩) (by assumption) ?rest_4_37
            (try simp only [Act.put, List.setIfInBounds_toArray, List.set_cons_succ, List.set_cons_zero])
            refine wpAnyH_take (i := 38) (oi := { dst := some 57, op := Go.Op.pick (Go.Operand.tmp 45) (Go.Operand.tmp 56) (Go.Operand.const (Go.Value.bool false)), type := 4, pos := "ref.go:164", after := #[{ on := 26, ground := Go.Ground.data }, { on := 37, ground := Go.Ground.data }, { on := 24, ground := Go.Ground.guard }], guard := some (24, false) }) (v := ?v_4_38) rfl (by kernel_rfl) (by kernel_rfl) (by kernel_rfl) (fun _ _ _ h => h) (Or.inl ⟨by rfl, ?hy_4_38⟩) (by assumption) ?rest_4_38
            case hy_4_38 => (intro w hSw; (try dsimp only at hSw); go_simp; (try (with_reducible rfl)))
            (try simp only [Act.put, List.setIfInBounds_toArray, List.set_cons_succ, List.set_cons_zero])
            refine wpAnyH_take (i := 39) (oi := { dst := some 58, op := Go.Op.pick (Go.Operand.tmp 43) (Go.Operand.const (Go.Value.bool true)) (Go.Operand.tmp 57), type := 4, pos := "ref.go:164", after := #[{ on := 24, ground := Go.Ground.data }, { on := 38, ground := Go.Ground.data }], guard := none }) (v := ?v_4_39) rfl (by kernel_rfl) (by kernel_rfl) (by kernel_rfl) (fun _ _ _ h => h) (Or.inl ⟨by rfl, ?hy_4_39⟩) (by assumption) ?rest_4_39
            case hy_4_39 => (intro w hSw; (try dsimp only at hSw); go_simp; (try (with_reducible rfl)))
            (try simp only [Act.put, List.setIfInBounds_toArray, List.set_cons_succ, List.set_cons_zero])
            refine wpAnyH_take (i := 40) (oi := { dst := some 59, op := Go.Op.move (Go.Operand.tmp 58), type := 4, pos := "ref.go:164", after := #[{ on := 39, ground := Go.Ground.data }, { on := 26, ground := Go.Ground.chain }], guard := none }) (v := ?v_4_40) rfl (by kernel_rfl) (by kernel_rfl) (by kernel_rfl) (fun _ _ _ h => h) (Or.inl ⟨by rfl, ?hy_4_40⟩) (by assumption) ?rest_4_40
            case hy_4_40 => (intro w hSw; (try dsimp only at hSw); go_simp; (try (with_reducible rfl)))
            (try simp only [Act.put, List.setIfInBounds_toArray, List.set_cons_succ, List.set_cons_zero])
            refine wpAnyH_take (i := 41) (oi := { dst := some 60, op := Go.Op.move (Go.Operand.tmp 0), type := 27, pos := "ref.go:164", after := #[{ on := 40, ground := Go.Ground.guard }], guard := some (40, false) }) (v := ?v_4_41) rfl (by kernel_rfl) (by kernel_rfl) (by kernel_rfl) (fun _ _ _ h => h) (Or.inl ⟨by rfl, ?hy_4_41⟩) (by assumption) ?rest_4_41
            case hy_4_41 => (intro w hSw; (try dsimp only at hSw); go_simp; (try (with_reducible rfl)))
            (try simp only [Act.put, List.setIfInBounds_toArray, List.set_cons_succ, List.set_cons_zero])
            refine wpAnyH_take (i := 42) (oi := { dst := some 61, op := Go.Op.move (Go.Operand.tmp 7), type := 3, pos := "ref.go:164", after := #[{ on := 40, ground := Go.Ground.guard }], guard := some (40, false) }) (v := ?v_4_42) rfl (by kernel_rfl) (by kernel_rfl) (by kernel_rfl) (fun _ _ _ h => h) (Or.inl ⟨by rfl, ?hy_4_42⟩) (by assumption) ?rest_4_42
            case hy_4_42 => (intro w hSw; (try dsimp only at hSw); go_simp; (try (with_reducible rfl)))
            (try simp only [Act.put, List.setIfInBounds_toArray, List.set_cons_succ, List.set_cons_zero])
            refine wpAnyH_take (i := 43) (oi := { dst := some 62, op := Go.Op.indexAddr 27 (Go.Operand.tmp 60) (Go.Operand.tmp 61), type := 0, pos := "ref.go:164", after := #[{ on := 41, ground := Go.Ground.data }, { on := 42, ground := Go.Ground.data }, { on := 40, ground := Go.Ground.guard }], guard := some (40, false) }) (v := ?v_4_43) rfl (by kernel_rfl) (by kernel_rfl) (by kernel_rfl) (fun _ _ _ h => h) (Or.inl ⟨by rfl, ?hy_4_43⟩) (by assumption) ?rest_4_43
            case hy_4_43 => (intro w hSw; (try dsimp only at hSw); go_simp; (try (with_reducible rfl)))
            (try simp only [Act.put, List.setIfInBounds_toArray, List.set_cons_succ, List.set_cons_zero])
            refine wpAnyH_take (i := 44) (oi := { dst := some 63, op := Go.Op.fieldAddr 43 (Go.Operand.tmp 62) 3, type := 0, pos := "ref.go:164", after := #[{ on := 43, ground := Go.Ground.data }, { on := 40, ground := Go.Ground.guard }], guard := some (40, false) }) (v := ?v_4_44) rfl (by kernel_rfl) (by kernel_rfl) (by kernel_rfl) (fun _ _ _ h => h) (Or.inl ⟨by rfl, ?hy_4_44⟩) (by assumption) ?rest_4_44
            case hy_4_44 => (intro w hSw; (try dsimp only at hSw); go_simp; (try (with_reducible rfl)))
            (try simp only [Act.put, List.setIfInBounds_toArray, List.set_cons_succ, List.set_cons_zero])
            refine wpAnyH_take (i := 45) (oi := { dst := some 64, op := Go.Op.load 27 (Go.Operand.tmp 63), type := 27, pos := "ref.go:164", after := #[{ on := 44, ground := Go.Ground.data }, { on := 40, ground := Go.Ground.guard }], guard := some (40, false) }) (v := ?v_4_45) rfl (by kernel_rfl) (by kernel_rfl) (by kernel_rfl) (fun _ _ _ h => h) (Or.inl ⟨by rfl, ?hy_4_45⟩) (by assumption) ?rest_4_45
            case hy_4_45 => (intro w hSw; (try dsimp only at hSw); go_simp; (try (with_reducible rfl)))
            (try simp only [Act.put, List.setIfInBounds_toArray, List.set_cons_succ, List.set_cons_zero])
            refine wpAnyH_take (i := 46) (oi := { dst := some 65, op := Go.Op.move (Go.Operand.tmp 1), type := 27, pos := "ref.go:164", after := #[{ on := 40, ground := Go.Ground.guard }], guard := some (40, false) }) (v := ?v_4_46) rfl (by kernel_rfl) (by kernel_rfl) (by kernel_rfl) (fun _ _ _ h => h) (Or.inl ⟨by rfl, ?hy_4_46⟩) (by assumption) ?rest_4_46
            case hy_4_46 => (intro w hSw; (try dsimp only at hSw); go_simp; (try (with_reducible rfl)))
            (try simp only [Act.put, List.setIfInBounds_toArray, List.set_cons_succ, List.set_cons_zero])
            refine wpAnyH_take (i := 47) (oi := { dst := some 66, op := Go.Op.move (Go.Operand.tmp 7), type := 3, pos := "ref.go:164", after := #[{ on := 40, ground := Go.Ground.guard }], guard := some (40, false) }) (v := ?v_4_47) rfl (by kernel_rfl) (by kernel_rfl) (by kernel_rfl) (fun _ _ _ h => h) (Or.inl ⟨by rfl, ?hy_4_47⟩) (by assumption) ?rest_4_47
            case hy_4_47 => (intro w hSw; (try dsimp only at hSw); go_simp; (try (with_reducible rfl)))
            (try simp only [Act.put, List.setIfInBounds_toArray, List.set_cons_succ, List.set_cons_zero])
            refine wpAnyH_take (i := 48) (oi := { dst := some 67, op := Go.Op.indexAddr 27 (Go.Operand.tmp 65) (Go.Operand.tmp 66), type := 0, pos := "ref.go:164", after := #[{ on := 46, ground := Go.Ground.data }, { on := 47, ground := Go.Ground.data }, { on := 40, ground := Go.Ground.guard }], guard := some (40, false) }) (v := ?v_4_48) rfl (by kernel_rfl) (by kernel_rfl) (by kernel_rfl) (fun _ _ _ h => h) (Or.inl ⟨by rfl, ?hy_4_48⟩) (by assumption) ?rest_4_48
            case hy_4_48 => (intro w hSw; (try dsimp only at hSw); go_simp; (try (with_reducible rfl)))
            (try simp only [Act.put, List.setIfInBounds_toArray, List.set_cons_succ, List.set_cons_zero])
            refine wpAnyH_take (i := 49) (oi := { dst := some 68, op := Go.Op.fieldAddr 43 (Go.Operand.tmp 67) 3, type := 0, pos := "ref.go:164", after := #[{ on := 48, ground := Go.Ground.data }, { on := 40, ground := Go.Ground.guard }], guard := some (40, false) }) (v := ?v_4_49) rfl (by kernel_rfl) (by kernel_rfl) (by kernel_rfl) (fun _ _ _ h => h) (Or.inl ⟨by rfl, ?hy_4_49⟩) (by assumption) ?rest_4_49
            case hy_4_49 => (intro w hSw; (try dsimp only at hSw); go_simp; (try (with_reducible rfl)))
            (try simp only [Act.put, List.setIfInBounds_toArray, List.set_cons_succ, List.set_cons_zero])
            refine wpAnyH_take (i := 50) (oi := { dst := some 69, op := Go.Op.load 27 (Go.Operand.tmp 68), type := 27, pos := "ref.go:164", after := #[{ on := 49, ground := Go.Ground.data }, { on := 40, ground := Go.Ground.guard }], guard := some (40, false) }) (v := ?v_4_50) rfl (by kernel_rfl) (by kernel_rfl) (by kernel_rfl) (fun _ _ _ h => h) (Or.inl ⟨by rfl, ?hy_4_50⟩) (by assumption) ?rest_4_50
            case hy_4_50 => (intro w hSw; (try dsimp only at hSw); go_simp; (try (with_reducible rfl)))
            (try simp only [Act.put, List.setIfInBounds_toArray, List.set_cons_succ, List.set_cons_zero])
            refine wpAnyH_take (i := 51) (oi := { dst := some 70, op := Go.Op.move (Go.Operand.tmp 2), type := 4, pos := "ref.go:164", after := #[{ on := 40, ground := Go.Ground.guard }], guard := some (40, false) }) (v := ?v_4_51) rfl (by kernel_rfl) (by kernel_rfl) (by kernel_rfl) (fun _ _ _ h => h) (Or.inl ⟨by rfl, ?hy_4_51⟩) (by assumption) ?rest_4_51
            case hy_4_51 => (intro w hSw; (try dsimp only at hSw); go_simp; (try (with_reducible rfl)))
            (try simp only [Act.put, List.setIfInBounds_toArray, List.set_cons_succ, List.set_cons_zero])
            refine wpAnyH_ready (rs := [52]) (by kernel_rfl) (by simp) ?_
            refine AllReadyH.cons (o := { dst := some 71, op := Go.Op.call { callee := Go.Callee.value (Go.Operand.func 11), args := #[Go.Operand.tmp 64, Go.Operand.tmp 69, Go.Operand.tmp 70], argTypes := #[27, 27, 4] }, type := 4, pos := "ref.go:164", after := #[{ on := 45, ground := Go.Ground.data }, { on := 50, ground := Go.Ground.data }, { on := 51, ground := Go.Ground.data }, { on := 40, ground := Go.Ground.chain }, { on := 40, ground := Go.Ground.guard }], guard := some (40, false) }) rfl (fun K hK => ?_) AllReadyH.nil
            go_simp
            (go_at_call 11; refine (HC.out.mono ?_); rintro e w2 ⟨rfl, hb2⟩; have y0 := (hb2.cell (p := ⟨g, o + j * 4, none⟩) (show g < wr.drew.heap.size from hgl2)).trans d0; have y1 := (hb2.cell (p := ⟨g, o + j * 4 + 1, none⟩) (show g < wr.drew.heap.size from hgl2)).trans d1; have y2 := (hb2.cell (p := ⟨g, o + j * 4 + 2, none⟩) (show g < wr.drew.heap.size from hgl2)).trans d2; have y3 := (hb2.cell (p := ⟨g, o + j * 4 + 3, none⟩) (show g < wr.drew.heap.size from hgl2)).trans d3; have z0 := (hb2.cell (p := ⟨g2, o2 + j * 4, none⟩) (show g2 < wr.drew.heap.size from hhl2)).trans e0; have z1 := (hb2.cell (p := ⟨g2, o2 + j * 4 + 1, none⟩) (show g2 < wr.drew.heap.size from hhl2)).trans e1; have z2 := (hb2.cell (p := ⟨g2, o2 + j * 4 + 2, none⟩) (show g2 < wr.drew.heap.size from hhl2)).trans e2; have z3 := (hb2.cell (p := ⟨g2, o2 + j * 4 + 3, none⟩) (show g2 < wr.drew.heap.size from hhl2)).trans e3; have hb3 : Below w.heap.size w w2 := hb.drew.trans (hb2.mono hb.size))
            (try dsimp only)
            refine hK.out _ _ ?_ (fun hHeld1 => ?_)
            · (try dsimp only); first | assumption | trivial | go_keep
            clear hK K hHeld0
            (try simp only [Act.put, List.setIfInBounds_toArray, List.set_cons_succ, List.set_cons_zero])
            refine wpAnyH_take (i := 53) (oi := { dst := some 72, op := Go.Op.unOp Go.UnOp.not 4 (Go.Operand.tmp 71), type := 4, pos := "ref.go:164", after := #[{ on := 52, ground := Go.Ground.data }, { on := 40, ground := Go.Ground.guard }], guard := some (40, false) }) (v := ?v_4_53) rfl (by kernel_rfl) (by kernel_rfl) (by kernel_rfl) (fun _ _ _ h => h) (Or.inl ⟨by rfl, ?hy_4_53⟩) (by assumption) ?rest_4_53
            case hy_4_53 => (intro w hSw; (try dsimp only at hSw); go_simp; (try (with_reducible rfl)))
            (try simp only [Act.put, List.setIfInBounds_toArray, List.set_cons_succ, List.set_cons_zero])
            refine wpAnyH_take (i := 54) (oi := { dst := some 73, op := Go.Op.pick (Go.Operand.tmp 59) (Go.Operand.const (Go.Value.bool true)) (Go.Operand.tmp 72), type := 4, pos := "ref.go:164", after := #[{ on := 40, ground := Go.Ground.data }, { on := 53, ground := Go.Ground.data }], guard := none }) (v := ?v_4_54) rfl (by kernel_rfl) (by kernel_rfl) (by kernel_rfl) (fun _ _ _ h => h) (Or.inl ⟨by rfl, ?hy_4_54⟩) (by assumption) ?rest_4_54
            case hy_4_54 => (intro w hSw; (try dsimp only at hSw); go_simp; (try (with_reducible rfl)))
            (try simp only [Act.put, List.setIfInBounds_toArray, List.set_cons_succ, List.set_cons_zero])
            refine wpAnyH_done (by kernel_rfl) ?_ _
            go_wp2
            go_roundw
            case rel => exact ⟨j + 1, by omega, by go_num, HA.out, hb3⟩
            case measure => simp [intOf]; omega

        by_cases h3 : mp = np
        rotate_left
        · have f3 : (mp != np) = true := by simpa using h3
          have f3' : (mp == np) = false := by simpa using h3
          rw [show (!true || mp == np) = false from by rw [f3']; rfl, Bool.false_and] at hsame
          have HBAD := Lib.hid (Tree.sames_bad true la lb j hjl hjl2 (by rw [hx1, hx2]; exact hsame))
          clear hcall hsame hall h3 hx1 hx2
          go_wp2
          refine wp_region_held_drew (S := fun w' => w'.cell? ⟨g, o + j * 4, none⟩ = some (.int .i64 mk) ∧ w'.cell? ⟨g, o + j * 4 + 1, none⟩ = some (.int .i64 mp) ∧ w'.cell? ⟨g, o + j * 4 + 2, none⟩ = some (.string ⟨mt.toArray⟩) ∧ w'.cell? ⟨g, o + j * 4 + 3, none⟩ = some (.slice A' ml.length c') ∧ w'.cell? ⟨g2, o2 + j * 4, none⟩ = some (.int .i64 nk) ∧ w'.cell? ⟨g2, o2 + j * 4 + 1, none⟩ = some (.int .i64 np) ∧ w'.cell? ⟨g2, o2 + j * 4 + 2, none⟩ = some (.string ⟨nt.toArray⟩) ∧ w'.cell? ⟨g2, o2 + j * 4 + 3, none⟩ = some (.slice B' nl.length d')) (by kernel_rfl) ?_ (fun hHeld0 => ?_)
          · first | assumption | go_keep
          refine wpAnyH_take (i := 0) (oi := { dst := some 19, op := Go.Op.move (Go.Operand.tmp 0), type := 27, pos := "ref.go:164", after := #[], guard := none }) (v := ?v_5_0) rfl (by kernel_rfl) (by kernel_rfl) (by kernel_rfl) (fun _ _ _ h => h) (Or.inl ⟨by rfl, ?hy_5_0⟩) (by assumption) ?rest_5_0
          case hy_5_0 => (intro w hSw; (try dsimp only at hSw); go_simp; (try (with_reducible rfl)))
          (try simp only [Act.put, List.setIfInBounds_toArray, List.set_cons_succ, List.set_cons_zero])
          refine wpAnyH_take (i := 1) (oi := { dst := some 20, op := Go.Op.move (Go.Operand.tmp 7), type := 3, pos := "ref.go:164", after := #[], guard := none }) (v := ?v_5_1) rfl (by kernel_rfl) (by kernel_rfl) (by kernel_rfl) (fun _ _ _ h => h) (Or.inl ⟨by rfl, ?hy_5_1⟩) (by assumption) ?rest_5_1
          case hy_5_1 => (intro w hSw; (try dsimp only at hSw); go_simp; (try (with_reducible rfl)))
          (try simp only [Act.put, List.setIfInBounds_toArray, List.set_cons_succ, List.set_cons_zero])
          refine wpAnyH_take (i := 2) (oi := { dst := some 21, op := Go.Op.indexAddr 27 (Go.Operand.tmp 19) (Go.Operand.tmp 20), type := 0, pos := "ref.go:164", after := #[{ on := 0, ground := Go.Ground.data }, { on := 1, ground := Go.Ground.data }], guard := none }) (v := ?v_5_2) rfl (by kernel_rfl) (by kernel_rfl) (by kernel_rfl) (fun _ _ _ h => h) (Or.inl ⟨by rfl, ?hy_5_2⟩) (by assumption) ?rest_5_2
          case hy_5_2 => (intro w hSw; (try dsimp only at hSw); go_simp; (try (with_reducible rfl)))
          (try simp only [Act.put, List.setIfInBounds_toArray, List.set_cons_succ, List.set_cons_zero])
          refine wpAnyH_take (i := 3) (oi := { dst := some 22, op := Go.Op.fieldAddr 43 (Go.Operand.tmp 21) 0, type := 0, pos := "ref.go:164", after := #[{ on := 2, ground := Go.Ground.data }], guard := none }) (v := ?v_5_3) rfl (by kernel_rfl) (by kernel_rfl) (by kernel_rfl) (fun _ _ _ h => h) (Or.inl ⟨by rfl, ?hy_5_3⟩) (by assumption) ?rest_5_3
          case hy_5_3 => (intro w hSw; (try dsimp only at hSw); go_simp; (try (with_reducible rfl)))
          (try simp only [Act.put, List.setIfInBounds_toArray, List.set_cons_succ, List.set_cons_zero])
          refine wpAnyH_take (i := 4) (oi := { dst := some 23, op := Go.Op.load 3 (Go.Operand.tmp 22), type := 3, pos := "ref.go:164", after := #[{ on := 3, ground := Go.Ground.data }], guard := none }) (v := ?v_5_4) rfl (by kernel_rfl) (by kernel_rfl) (by kernel_rfl) (fun _ _ _ h => h) (Or.inl ⟨by rfl, ?hy_5_4⟩) (by assumption) ?rest_5_4
          case hy_5_4 => (intro w hSw; (try dsimp only at hSw); go_simp; (try (with_reducible rfl)))
          (try simp only [Act.put, List.setIfInBounds_toArray, List.set_cons_succ, List.set_cons_zero])
          refine wpAnyH_take (i := 5) (oi := { dst := some 24, op := Go.Op.move (Go.Operand.tmp 1), type := 27, pos := "ref.go:164", after := #[], guard := none }) (v := ?v_5_5) rfl (by kernel_rfl) (by kernel_rfl) (by kernel_rfl) (fun _ _ _ h => h) (Or.inl ⟨by rfl, ?hy_5_5⟩) (by assumption) ?rest_5_5
          case hy_5_5 => (intro w hSw; (try dsimp only at hSw); go_simp; (try (with_reducible rfl)))
          (try simp only [Act.put, List.setIfInBounds_toArray, List.set_cons_succ, List.set_cons_zero])
          refine wpAnyH_take (i := 6) (oi := { dst := some 25, op := Go.Op.move (Go.Operand.tmp 7), type := 3, pos := "ref.go:164", after := #[], guard := none }) (v := ?v_5_6) rfl (by kernel_rfl) (by kernel_rfl) (by kernel_rfl) (fun _ _ _ h => h) (Or.inl ⟨by rfl, ?hy_5_6⟩) (by assumption) ?rest_5_6
          case hy_5_6 => (intro w hSw; (try dsimp only at hSw); go_simp; (try (with_reducible rfl)))
          (try simp only [Act.put, List.setIfInBounds_toArray, List.set_cons_succ, List.set_cons_zero])
          refine wpAnyH_take (i := 7) (oi := { dst := some 26, op := Go.Op.indexAddr 27 (Go.Operand.tmp 24) (Go.Operand.tmp 25), type := 0, pos := "ref.go:164", after := #[{ on := 5, ground := Go.Ground.data }, { on := 6, ground := Go.Ground.data }], guard := none }) (v := ?v_5_7) rfl (by kernel_rfl) (by kernel_rfl) (by kernel_rfl) (fun _ _ _ h => h) (Or.inl ⟨by rfl, ?hy_5_7⟩) (by assumption) ?rest_5_7
          case hy_5_7 => (intro w hSw; (try dsimp only at hSw); go_simp; (try (with_reducible rfl)))
          (try simp only [Act.put, List.setIfInBounds_toArray, List.set_cons_succ, List.set_cons_zero])
          refine wpAnyH_take (i := 8) (oi := { dst := some 27, op := Go.Op.fieldAddr 43 (Go.Operand.tmp 26) 0, type := 0, pos := "ref.go:164", after := #[{ on := 7, ground := Go.Ground.data }], guard := none }) (v := ?v_5_8) rfl (by kernel_rfl) (by kernel_rfl) (by kernel_rfl) (fun _ _ _ h => h) (Or.inl ⟨by rfl, ?hy_5_8⟩) (by assumption) ?rest_5_8
          case hy_5_8 => (intro w hSw; (try dsimp only at hSw); go_simp; (try (with_reducible rfl)))
          (try simp only [Act.put, List.setIfInBounds_toArray, List.set_cons_succ, List.set_cons_zero])
          refine wpAnyH_take (i := 9) (oi := { dst := some 28, op := Go.Op.load 3 (Go.Operand.tmp 27), type := 3, pos := "ref.go:164", after := #[{ on := 8, ground := Go.Ground.data }], guard := none }) (v := ?v_5_9) rfl (by kernel_rfl) (by kernel_rfl) (by kernel_rfl) (fun _ _ _ h => h) (Or.inl ⟨by rfl, ?hy_5_9⟩) (by assumption) ?rest_5_9
          case hy_5_9 => (intro w hSw; (try dsimp only at hSw); go_simp; (try (with_reducible rfl)))
          (try simp only [Act.put, List.setIfInBounds_toArray, List.set_cons_succ, List.set_cons_zero])
          refine wpAnyH_take (i := 10) (oi := { dst := some 29, op := Go.Op.binOp Go.BinOp.neq 3 (Go.Operand.tmp 23) (Go.Operand.tmp 28) 3, type := 4, pos := "ref.go:164", after := #[{ on := 4, ground := Go.Ground.data }, { on := 9, ground := Go.Ground.data }], guard := none }) (v := ?v_5_10) rfl (by kernel_rfl) (by kernel_rfl) (by kernel_rfl) (fun _ _ _ h => h) (Or.inl ⟨by rfl, ?hy_5_10⟩) (by assumption) ?rest_5_10
          case hy_5_10 => (intro w hSw; (try dsimp only at hSw); go_simp; (try (with_reducible rfl)))
          (try simp only [Act.put, List.setIfInBounds_toArray, List.set_cons_succ, List.set_cons_zero])
          refine wpAnyH_take (i := 11) (oi := { dst := some 30, op := Go.Op.move (Go.Operand.tmp 29), type := 4, pos := "ref.go:164", after := #[{ on := 10, ground := Go.Ground.data }], guard := none }) (v := ?v_5_11) rfl (by kernel_rfl) (by kernel_rfl) (by kernel_rfl) (fun _ _ _ h => h) (Or.inl ⟨by rfl, ?hy_5_11⟩) (by assumption) ?rest_5_11
          case hy_5_11 => (intro w hSw; (try dsimp only at hSw); go_simp; (try (with_reducible rfl)))
          (try simp only [Act.put, List.setIfInBounds_toArray, List.set_cons_succ, List.set_cons_zero])
          refine wpAnyH_take (i := 12) (oi := { dst := some 31, op := Go.Op.move (Go.Operand.tmp 0), type := 27, pos := "ref.go:164", after := #[{ on := 11, ground := Go.Ground.guard }], guard := some (11, false) }) (v := ?v_5_12) rfl (by kernel_rfl) (by kernel_rfl) (by kernel_rfl) (fun _ _ _ h => h) (Or.inl ⟨by rfl, ?hy_5_12⟩) (by assumption) ?rest_5_12
          case hy_5_12 => (intro w hSw; (try dsimp only at hSw); go_simp; (try (with_reducible rfl)))
          (try simp only [Act.put, List.setIfInBounds_toArray, List.set_cons_succ, List.set_cons_zero])
          refine wpAnyH_take (i := 13) (oi := { dst := some 32, op := Go.Op.move (Go.Operand.tmp 7), type := 3, pos := "ref.go:164", after := #[{ on := 11, ground := Go.Ground.guard }], guard := some (11, false) }) (v := ?v_5_13) rfl (by kernel_rfl) (by kernel_rfl) (by kernel_rfl) (fun _ _ _ h => h) (Or.inl ⟨by rfl, ?hy_5_13⟩) (by assumption) ?rest_5_13
          case hy_5_13 => (intro w hSw; (try dsimp only at hSw); go_simp; (try (with_reducible rfl)))
          (try simp only [Act.put, List.setIfInBounds_toArray, List.set_cons_succ, List.set_cons_zero])
          refine wpAnyH_take (i := 14) (oi := { dst := some 33, op := Go.Op.indexAddr 27 (Go.Operand.tmp 31) (Go.Operand.tmp 32), type := 0, pos := "ref.go:164", after := #[{ on := 12, ground := Go.Ground.data }, { on := 13, ground := Go.Ground.data }, { on := 11, ground := Go.Ground.guard }], guard := some (11, false) }) (v := ?v_5_14) rfl (by kernel_rfl) (by kernel_rfl) (by kernel_rfl) (fun _ _ _ h => h) (Or.inl ⟨by rfl, ?hy_5_14⟩) (by assumption) ?rest_5_14
          case hy_5_14 => (intro w hSw; (try dsimp only at hSw); go_simp; (try (with_reducible rfl)))
          (try simp only [Act.put, List.setIfInBounds_toArray, List.set_cons_succ, List.set_cons_zero])
          refine wpAnyH_take (i := 15) (oi := { dst := some 34, op := Go.Op.fieldAddr 43 (Go.Operand.tmp 33) 2, type := 0, pos := "ref.go:164", after := #[{ on := 14, ground := Go.Ground.data }, { on := 11, ground := Go.Ground.guard }], guard := some (11, false) }) (v := ?v_5_15) rfl (by kernel_rfl) (by kernel_rfl) (by kernel_rfl) (fun _ _ _ h => h) (Or.inl ⟨by rfl, ?hy_5_15⟩) (by assumption) ?rest_5_15
          case hy_5_15 => (intro w hSw; (try dsimp only at hSw); go_simp; (try (with_reducible rfl)))
          (try simp only [Act.put, List.setIfInBounds_toArray, List.set_cons_succ, List.set_cons_zero])
          refine wpAnyH_take (i := 16) (oi := { dst := some 35, op := Go.Op.load 9 (Go.Operand.tmp 34), type := 9, pos := "ref.go:164", after := #[{ on := 15, ground := Go.Ground.data }, { on := 11, ground := Go.Ground.guard }], guard := some (11, false) }) (v := ?v_5_16) rfl (by kernel_rfl) (by kernel_rfl) (by kernel_rfl) (fun _ _ _ h => h) (Or.inl ⟨by rfl, ?hy_5_16⟩) (by assumption) ?rest_5_16
          case hy_5_16 => (intro w hSw; (try dsimp only at hSw); go_simp; (try (with_reducible rfl)))
          (try simp only [Act.put, List.setIfInBounds_toArray, List.set_cons_succ, List.set_cons_zero])
          refine wpAnyH_take (i := 17) (oi := { dst := some 36, op := Go.Op.move (Go.Operand.tmp 1), type := 27, pos := "ref.go:164", after := #[{ on := 11, ground := Go.Ground.guard }], guard := some (11, false) }) (v := ?v_5_17) rfl (by kernel_rfl) (by kernel_rfl) (by kernel_rfl) (fun _ _ _ h => h) (Or.inl ⟨by rfl, ?hy_5_17⟩) (by assumption) ?rest_5_17
          case hy_5_17 => (intro w hSw; (try dsimp only at hSw); go_simp; (try (with_reducible rfl)))
          (try simp only [Act.put, List.setIfInBounds_toArray, List.set_cons_succ, List.set_cons_zero])
          refine wpAnyH_take (i := 18) (oi := { dst := some 37, op := Go.Op.move (Go.Operand.tmp 7), type := 3, pos := "ref.go:164", after := #[{ on := 11, ground := Go.Ground.guard }], guard := some (11, false) }) (v := ?v_5_18) rfl (by kernel_rfl) (by kernel_rfl) (by kernel_rfl) (fun _ _ _ h => h) (Or.inl ⟨by rfl, ?hy_5_18⟩) (by assumption) ?rest_5_18
          case hy_5_18 => (intro w hSw; (try dsimp only at hSw); go_simp; (try (with_reducible rfl)))
          (try simp only [Act.put, List.setIfInBounds_toArray, List.set_cons_succ, List.set_cons_zero])
          refine wpAnyH_take (i := 19) (oi := { dst := some 38, op := Go.Op.indexAddr 27 (Go.Operand.tmp 36) (Go.Operand.tmp 37), type := 0, pos := "ref.go:164", after := #[{ on := 17, ground := Go.Ground.data }, { on := 18, ground := Go.Ground.data }, { on := 11, ground := Go.Ground.guard }], guard := some (11, false) }) (v := ?v_5_19) rfl (by kernel_rfl) (by kernel_rfl) (by kernel_rfl) (fun _ _ _ h => h) (Or.inl ⟨by rfl, ?hy_5_19⟩) (by assumption) ?rest_5_19
          case hy_5_19 => (intro w hSw; (try dsimp only at hSw); go_simp; (try (with_reducible rfl)))
          (try simp only [Act.put, List.setIfInBounds_toArray, List.set_cons_succ, List.set_cons_zero])
          refine wpAnyH_take (i := 20) (oi := { dst := some 39, op := Go.Op.fieldAddr 43 (Go.Operand.tmp 38) 2, type := 0, pos := "ref.go:164", after := #[{ on := 19, ground := Go.Ground.data }, { on := 11, ground := Go.Ground.guard }], guard := some (11, false) }) (v := ?v_5_20) rfl (by kernel_rfl) (by kernel_rfl) (by kernel_rfl) (fun _ _ _ h => h) (Or.inl ⟨by rfl, ?hy_5_20⟩) (by assumption) ?rest_5_20
          case hy_5_20 => (intro w hSw; (try dsimp only at hSw); go_simp; (try (with_reducible rfl)))
          (try simp only [Act.put, List.setIfInBounds_toArray, List.set_cons_succ, List.set_cons_zero])
          refine wpAnyH_take (i := 21) (oi := { dst := some 40, op := Go.Op.load 9 (Go.Operand.tmp 39), type := 9, pos := "ref.go:164", after := #[{ on := 20, ground := Go.Ground.data }, { on := 11, ground := Go.Ground.guard }], guard := some (11, false) }) (v := ?v_5_21) rfl (by kernel_rfl) (by kernel_rfl) (by kernel_rfl) (fun _ _ _ h => h) (Or.inl ⟨by rfl, ?hy_5_21⟩) (by assumption) ?rest_5_21
          case hy_5_21 => (intro w hSw; (try dsimp only at hSw); go_simp; (try (with_reducible rfl)))
          (try simp only [Act.put, List.setIfInBounds_toArray, List.set_cons_succ, List.set_cons_zero])
          refine wpAnyH_take (i := 22) (oi := { dst := some 41, op := Go.Op.binOp Go.BinOp.neq 9 (Go.Operand.tmp 35) (Go.Operand.tmp 40) 9, type := 4, pos := "ref.go:164", after := #[{ on := 16, ground := Go.Ground.data }, { on := 21, ground := Go.Ground.data }, { on := 11, ground := Go.Ground.guard }], guard := some (11, false) }) (v := ?v_5_22) rfl (by kernel_rfl) (by kernel_rfl) (by kernel_rfl) (fun _ _ _ h => h) (Or.inl ⟨by rfl, ?hy_5_22⟩) (by assumption) ?rest_5_22
          case hy_5_22 => (intro w hSw; (try dsimp only at hSw); go_simp; (try (with_reducible rfl)))
          (try simp only [Act.put, List.setIfInBounds_toArray, List.set_cons_succ, List.set_cons_zero])
          refine wpAnyH_take (i := 23) (oi := { dst := some 42, op := Go.Op.pick (Go.Operand.tmp 30) (Go.Operand.const (Go.Value.bool true)) (Go.Operand.tmp 41), type := 4, pos := "ref.go:164", after := #[{ on := 11, ground := Go.Ground.data }, { on := 22, ground := Go.Ground.data }], guard := none }) (v := ?v_5_23) rfl (by kernel_rfl) (by kernel_rfl) (by kernel_rfl) (fun _ _ _ h => h) (Or.inl ⟨by rfl, ?hy_5_23⟩) (by assumption) ?rest_5_23
          case hy_5_23 => (intro w hSw; (try dsimp only at hSw); go_simp; (try (with_reducible rfl)))
          (try simp only [Act.put, List.setIfInBounds_toArray, List.set_cons_succ, List.set_cons_zero])
          refine wpAnyH_take (i := 24) (oi := { dst := some 43, op := Go.Op.move (Go.Operand.tmp 42), type := 4, pos := "ref.go:164", after := #[{ on := 23, ground := Go.Ground.data }, { on := 11, ground := Go.Ground.chain }], guard := none }) (v := ?v_5_24) rfl (by kernel_rfl) (by kernel_rfl) (by kernel_rfl) (fun _ _ _ h => h) (Or.inl ⟨by rfl, ?hy_5_24⟩) (by assumption) ?rest_5_24
          case hy_5_24 => (intro w hSw; (try dsimp only at hSw); go_simp; (try (with_reducible rfl)))
          (try simp only [Act.put, List.setIfInBounds_toArray, List.set_cons_succ, List.set_cons_zero])
          refine wpAnyH_take (i := 25) (oi := { dst := some 44, op := Go.Op.move (Go.Operand.tmp 2), type := 4, pos := "ref.go:164", after := #[{ on := 24, ground := Go.Ground.guard }], guard := some (24, false) }) (v := ?v_5_25) rfl (by kernel_rfl) (by kernel_rfl) (by kernel_rfl) (fun _ _ _ h => h) (Or.inl ⟨by rfl, ?hy_5_25⟩) (by assumption) ?rest_5_25
          case hy_5_25 => (intro w hSw; (try dsimp only at hSw); go_simp; (try (with_reducible rfl)))
          (try simp only [Act.put, List.setIfInBounds_toArray, List.set_cons_succ, List.set_cons_zero])
          refine wpAnyH_take (i := 26) (oi := { dst := some 45, op := Go.Op.move (Go.Operand.tmp 44), type := 4, pos := "ref.go:164", after := #[{ on := 25, ground := Go.Ground.data }, { on := 24, ground := Go.Ground.chain }, { on := 24, ground := Go.Ground.guard }], guard := some (24, false) }) (v := ?v_5_26) rfl (by kernel_rfl) (by kernel_rfl) (by kernel_rfl) (fun _ _ _ h => h) (Or.inl ⟨by rfl, ?hy_5_26⟩) (by assumption) ?rest_5_26
          case hy_5_26 => (intro w hSw; (try dsimp only at hSw); go_simp; (try (with_reducible rfl)))
          (try simp only [Act.put, List.setIfInBounds_toArray, List.set_cons_succ, List.set_cons_zero])
          refine wpAnyH_take (i := 27) (oi := { dst := some 46, op := Go.Op.move (Go.Operand.tmp 0), type := 27, pos := "ref.go:164", after := #[{ on := 26, ground := Go.Ground.guard }], guard := some (26, true) }) (v := ?v_5_27) rfl (by kernel_rfl) (by kernel_rfl) (by kernel_rfl) (fun _ _ _ h => h) (Or.inl ⟨by rfl, ?hy_5_27⟩) (by assumption) ?rest_5_27
          case hy_5_27 => (intro w hSw; (try dsimp only at hSw); go_simp; (try (with_reducible rfl)))
          (try simp only [Act.put, List.setIfInBounds_toArray, List.set_cons_succ, List.set_cons_zero])
          refine wpAnyH_take (i := 28) (oi := { dst := some 47, op := Go.Op.move (Go.Operand.tmp 7), type := 3, pos := "ref.go:164", after := #[{ on := 26, ground := Go.Ground.guard }], guard := some (26, true) }) (v := ?v_5_28) rfl (by kernel_rfl) (by kernel_rfl) (by kernel_rfl) (fun _ _ _ h => h) (Or.inl ⟨by rfl, ?hy_5_28⟩) (by assumption) ?rest_5_28
          case hy_5_28 => (intro w hSw; (try dsimp only at hSw); go_simp; (try (with_reducible rfl)))
          (try simp only [Act.put, List.setIfInBounds_toArray, List.set_cons_succ, List.set_cons_zero])
          refine wpAnyH_take (i := 29) (oi := { dst := some 48, op := Go.Op.indexAddr 27 (Go.Operand.tmp 46) (Go.Operand.tmp 47), type := 0, pos := "ref.go:164", after := #[{ on := 27, ground := Go.Ground.data }, { on := 28, ground := Go.Ground.data }, { on := 26, ground := Go.Ground.guard }], guard := some (26, true) }) (v := ?v_5_29) rfl (by kernel_rfl) (by kernel_rfl) (by kernel_rfl) (fun _ _ _ h => h) (Or.inl ⟨by rfl, ?hy_5_29⟩) (by assumption) ?rest_5_29
          case hy_5_29 => (intro w hSw; (try dsimp only at hSw); go_simp; (try (with_reducible rfl)))
          (try simp only [Act.put, List.setIfInBounds_toArray, List.set_cons_succ, List.set_cons_zero])
          refine wpAnyH_take (i := 30) (oi := { dst := some 49, op := Go.Op.fieldAddr 43 (Go.Operand.tmp 48) 1, type := 0, pos := "ref.go:164", after := #[{ on := 29, ground := Go.Ground.data }, { on := 26, ground := Go.Ground.guard }], guard := some (26, true) }) (v := ?v_5_30) rfl (by kernel_rfl) (by kernel_rfl) (by kernel_rfl) (fun _ _ _ h => h) (Or.inl ⟨by rfl, ?hy_5_30⟩) (by assumption) ?rest_5_30
          case hy_5_30 => (intro w hSw; (try dsimp only at hSw); go_simp; (try (with_reducible rfl)))
          (try simp only [Act.put, List.setIfInBounds_toArray, List.set_cons_succ, List.set_cons_zero])
          refine wpAnyH_take (i := 31) (oi := { dst := some 50, op := Go.Op.load 3 (Go.Operand.tmp 49), type := 3, pos := "ref.go:164", after := #[{ on := 30, ground := Go.Ground.data }, { on := 26, ground := Go.Ground.guard }], guard := some (26, true) }) (v := ?v_5_31) rfl (by kernel_rfl) (by kernel_rfl) (by kernel_rfl) (fun _ _ _ h => h) (Or.inl ⟨by rfl, ?hy_5_31⟩) (by assumption) ?rest_5_31
          case hy_5_31 => (intro w hSw; (try dsimp only at hSw); go_simp; (try (with_reducible rfl)))
          (try simp only [Act.put, List.setIfInBounds_toArray, List.set_cons_succ, List.set_cons_zero])
          refine wpAnyH_take (i := 32) (oi := { dst := some 51, op := Go.Op.move (Go.Operand.tmp 1), type := 27, pos := "ref.go:164", after := #[{ on := 26, ground := Go.Ground.guard }], guard := some (26, true) }) (v := ?v_5_32) rfl (by kernel_rfl) (by kernel_rfl) (by kernel_rfl) (fun _ _ _ h => h) (Or.inl ⟨by rfl, ?hy_5_32⟩) (by assumption) ?rest_5_32
          case hy_5_32 => (intro w hSw; (try dsimp only at hSw); go_simp; (try (with_reducible rfl)))
          (try simp only [Act.put, List.setIfInBounds_toArray, List.set_cons_succ, List.set_cons_zero])
          refine wpAnyH_take (i := 33) (oi := { dst := some 52, op := Go.Op.move (Go.Operand.tmp 7), type := 3, pos := "ref.go:164", after := #[{ on := 26, ground := Go.Ground.guard }], guard := some (26, true) }) (v := ?v_5_33) rfl (by kernel_rfl) (by kernel_rfl) (by kernel_rfl) (fun _ _ _ h => h) (Or.inl ⟨by rfl, ?hy_5_33⟩) (by assumption) ?rest_5_33
          case hy_5_33 => (intro w hSw; (try dsimp only at hSw); go_simp; (try (with_reducible rfl)))
          (try simp only [Act.put, List.setIfInBounds_toArray, List.set_cons_succ, List.set_cons_zero])
          refine wpAnyH_take (i := 34) (oi := { dst := some 53, op := Go.Op.indexAddr 27 (Go.Operand.tmp 51) (Go.Operand.tmp 52), type := 0, pos := "ref.go:164", after := #[{ on := 32, ground := Go.Ground.data }, { on := 33, ground := Go.Ground.data }, { on := 26, ground := Go.Ground.guard }], guard := some (26, true) }) (v := ?v_5_34) rfl (by kernel_rfl) (by kernel_rfl) (by kernel_rfl) (fun _ _ _ h => h) (Or.inl ⟨by rfl, ?hy_5_34⟩) (by assumption) ?rest_5_34
          case hy_5_34 => (intro w hSw; (try dsimp only at hSw); go_simp; (try (with_reducible rfl)))
          (try simp only [Act.put, List.setIfInBounds_toArray, List.set_cons_succ, List.set_cons_zero])
          refine wpAnyH_take (i := 35) (oi := { dst := some 54, op := Go.Op.fieldAddr 43 (Go.Operand.tmp 53) 1, type := 0, pos := "ref.go:164", after := #[{ on := 34, ground := Go.Ground.data }, { on := 26, ground := Go.Ground.guard }], guard := some (26, true) }) (v := ?v_5_35) rfl (by kernel_rfl) (by kernel_rfl) (by kernel_rfl) (fun _ _ _ h => h) (Or.inl ⟨by rfl, ?hy_5_35⟩) (by assumption) ?rest_5_35
          case hy_5_35 => (intro w hSw; (try dsimp only at hSw); go_simp; (try (with_reducible rfl)))
          (try simp only [Act.put, List.setIfInBounds_toArray, List.set_cons_succ, List.set_cons_zero])
          refine wpAnyH_take (i := 36) (oi := { dst := some 55, op := Go.Op.load 3 (Go.Operand.tmp 54), type := 3, pos := "ref.go:164", after := #[{ on := 35, ground := Go.Ground.data }, { on := 26, ground := Go.Ground.guard }], guard := some (26, true) }) (v := ?v_5_36) rfl (by kernel_rfl) (by kernel_rfl) (by kernel_rfl) (fun _ _ _ h => h) (Or.inl ⟨by rfl, ?hy_5_36⟩) (by assumption) ?rest_5_36
          case hy_5_36 => (intro w hSw; (try dsimp only at hSw); go_simp; (try (with_reducible rfl)))
          (try simp only [Act.put, List.setIfInBounds_toArray, List.set_cons_succ, List.set_cons_zero])
          refine wpAnyH_take (i := 37) (oi := { dst := some 56, op := Go.Op.binOp Go.BinOp.neq 3 (Go.Operand.tmp 50) (Go.Operand.tmp 55) 3, type := 4, pos := "ref.go:164", after := #[{ on := 31, ground := Go.Ground.data }, { on := 36, ground := Go.Ground.data }, { on := 26, ground := Go.Ground.guard }], guard := some (26, true) }) (v := ?v_5_37) rfl (by kernel_rfl) (by kernel_rfl) (by kernel_rfl) (fun _ _ _ h => h) (Or.inl ⟨by rfl, ?hy_5_37⟩) (by assumption) ?rest_5_37
          case hy_5_37 => (intro w hSw; (try dsimp only at hSw); go_simp; (try (with_reducible rfl)))
          (try simp only [Act.put, List.setIfInBounds_toArray, List.set_cons_succ, List.set_cons_zero])
          refine wpAnyH_take (i := 38) (oi := { dst := some 57, op := Go.Op.pick (Go.Operand.tmp 45) (Go.Operand.tmp 56) (Go.Operand.const (Go.Value.bool false)), type := 4, pos := "ref.go:164", after := #[{ on := 26, ground := Go.Ground.data }, { on := 37, ground := Go.Ground.data }, { on := 24, ground := Go.Ground.guard }], guard := some (24, false) }) (v := ?v_5_38) rfl (by kernel_rfl) (by kernel_rfl) (by kernel_rfl) (fun _ _ _ h => h) (Or.inl ⟨by rfl, ?hy_5_38⟩) (by assumption) ?rest_5_38
          case hy_5_38 => (intro w hSw; (try dsimp only at hSw); go_simp; (try (with_reducible rfl)))
          (try simp only [Act.put, List.setIfInBounds_toArray, List.set_cons_succ, List.set_cons_zero])
          refine wpAnyH_take (i := 39) (oi := { dst := some 58, op := Go.Op.pick (Go.Operand.tmp 43) (Go.Operand.const (Go.Value.bool true)) (Go.Operand.tmp 57), type := 4, pos := "ref.go:164", after := #[{ on := 24, ground := Go.Ground.data }, { on := 38, ground := Go.Ground.data }], guard := none }) (v := ?v_5_39) rfl (by kernel_rfl) (by kernel_rfl) (by kernel_rfl) (fun _ _ _ h => h) (Or.inl ⟨by rfl, ?hy_5_39⟩) (by assumption) ?rest_5_39
          case hy_5_39 => (intro w hSw; (try dsimp only at hSw); go_simp; (try (with_reducible rfl)))
          (try simp only [Act.put, List.setIfInBounds_toArray, List.set_cons_succ, List.set_cons_zero])
          refine wpAnyH_take (i := 40) (oi := { dst := some 59, op := Go.Op.move (Go.Operand.tmp 58), type := 4, pos := "ref.go:164", after := #[{ on := 39, ground := Go.Ground.data }, { on := 26, ground := Go.Ground.chain }], guard := none }) (v := ?v_5_40) rfl (by kernel_rfl) (by kernel_rfl) (by kernel_rfl) (fun _ _ _ h => h) (Or.inl ⟨by rfl, ?hy_5_40⟩) (by assumption) ?rest_5_40
          case hy_5_40 => (intro w hSw; (try dsimp only at hSw); go_simp; (try (with_reducible rfl)))
          (try simp only [Act.put, List.setIfInBounds_toArray, List.set_cons_succ, List.set_cons_zero])
          refine wpAnyH_take (i := 41) (oi := { dst := some 60, op := Go.Op.move (Go.Operand.tmp 0), type := 27, pos := "ref.go:164", after := #[{ on := 40, ground := Go.Ground.guard }], guard := some (40, false) }) (v := undef) rfl (by kernel_rfl) (by kernel_rfl) (by kernel_rfl) (fun _ _ _ h => h) (Or.inr ⟨by rfl, rfl⟩) (by assumption) ?rest_5_41
          (try simp only [Act.put, List.setIfInBounds_toArray, List.set_cons_succ, List.set_cons_zero])
          refine wpAnyH_take (i := 42) (oi := { dst := some 61, op := Go.Op.move (Go.Operand.tmp 7), type := 3, pos := "ref.go:164", after := #[{ on := 40, ground := Go.Ground.guard }], guard := some (40, false) }) (v := undef) rfl (by kernel_rfl) (by kernel_rfl) (by kernel_rfl) (fun _ _ _ h => h) (Or.inr ⟨by rfl, rfl⟩) (by assumption) ?rest_5_42
          (try simp only [Act.put, List.setIfInBounds_toArray, List.set_cons_succ, List.set_cons_zero])
          refine wpAnyH_take (i := 43) (oi := { dst := some 62, op := Go.Op.indexAddr 27 (Go.Operand.tmp 60) (Go.Operand.tmp 61), type := 0, pos := "ref.go:164", after := #[{ on := 41, ground := Go.Ground.data }, { on := 42, ground := Go.Ground.data }, { on := 40, ground := Go.Ground.guard }], guard := some (40, false) }) (v := undef) rfl (by kernel_rfl) (by kernel_rfl) (by kernel_rfl) (fun _ _ _ h => h) (Or.inr ⟨by rfl, rfl⟩) (by assumption) ?rest_5_43
          (try simp only [Act.put, List.setIfInBounds_toArray, List.set_cons_succ, List.set_cons_zero])
          refine wpAnyH_take (i := 44) (oi := { dst := some 63, op := Go.Op.fieldAddr 43 (Go.Operand.tmp 62) 3, type := 0, pos := "ref.go:164", after := #[{ on := 43, ground := Go.Ground.data }, { on := 40, ground := Go.Ground.guard }], guard := some (40, false) }) (v := undef) rfl (by kernel_rfl) (by kernel_rfl) (by kernel_rfl) (fun _ _ _ h => h) (Or.inr ⟨by rfl, rfl⟩) (by assumption) ?rest_5_44
          (try simp only [Act.put, List.setIfInBounds_toArray, List.set_cons_succ, List.set_cons_zero])
          refine wpAnyH_take (i := 45) (oi := { dst := some 64, op := Go.Op.load 27 (Go.Operand.tmp 63), type := 27, pos := "ref.go:164", after := #[{ on := 44, ground := Go.Ground.data }, { on := 40, ground := Go.Ground.guard }], guard := some (40, false) }) (v := undef) rfl (by kernel_rfl) (by kernel_rfl) (by kernel_rfl) (fun _ _ _ h => h) (Or.inr ⟨by rfl, rfl⟩) (by assumption) ?rest_5_45
          (try simp only [Act.put, List.setIfInBounds_toArray, List.set_cons_succ, List.set_cons_zero])
          refine wpAnyH_take (i := 46) (oi := { dst := some 65, op := Go.Op.move (Go.Operand.tmp 1), type := 27, pos := "ref.go:164", after := #[{ on := 40, ground := Go.Ground.guard }], guard := some (40, false) }) (v := undef) rfl (by kernel_rfl) (by kernel_rfl) (by kernel_rfl) (fun _ _ _ h => h) (Or.inr ⟨by rfl, rfl⟩) (by assumption) ?rest_5_46
          (try simp only [Act.put, List.setIfInBounds_toArray, List.set_cons_succ, List.set_cons_zero])
          refine wpAnyH_take (i := 47) (oi := { dst := some 66, op := Go.Op.move (Go.Operand.tmp 7), type := 3, pos := "ref.go:164", after := #[{ on := 40, ground := Go.Ground.guard }], guard := some (40, false) }) (v := undef) rfl (by kernel_rfl) (by kernel_rfl) (by kernel_rfl) (fun _ _ _ h => h) (Or.inr ⟨by rfl, rfl⟩) (by assumption) ?rest_5_47
          (try simp only [Act.put, List.setIfInBounds_toArray, List.set_cons_succ, List.set_cons_zero])
          refine wpAnyH_take (i := 48) (oi := { dst := some 67, op := Go.Op.indexAddr 27 (Go.Operand.tmp 65) (Go.Operand.tmp 66), type := 0, pos := "ref.go:164", after := #[{ on := 46, ground := Go.Ground.data }, { on := 47, ground := Go.Ground.data }, { on := 40, ground := Go.Ground.guard }], guard := some (40, false) }) (v := undef) rfl (by kernel_rfl) (by kernel_rfl) (by kernel_rfl) (fun _ _ _ h => h) (Or.inr ⟨by rfl, rfl⟩) (by assumption) ?rest_5_48
          (try simp only [Act.put, List.setIfInBounds_toArray, List.set_cons_succ, List.set_cons_zero])
          refine wpAnyH_take (i := 49) (oi := { dst := some 68, op := Go.Op.fieldAddr 43 (Go.Operand.tmp 67) 3, type := 0, pos := "ref.go:164", after := #[{ on := 48, ground := Go.Ground.data }, { on := 40, ground := Go.Ground.guard }], guard := some (40, false) }) (v := undef) rfl (by kernel_rfl) (by kernel_rfl) (by kernel_rfl) (fun _ _ _ h => h) (Or.inr ⟨by rfl, rfl⟩) (by assumption) ?rest_5_49
          (try simp only [Act.put, List.setIfInBounds_toArray, List.set_cons_succ, List.set_cons_zero])
          refine wpAnyH_take (i := 50) (oi := { dst := some 69, op := Go.Op.load 27 (Go.Operand.tmp 68), type := 27, pos := "ref.go:164", after := #[{ on := 49, ground := Go.Ground.data }, { on := 40, ground := Go.Ground.guard }], guard := some (40, false) }) (v := undef) rfl (by kernel_rfl) (by kernel_rfl) (by kernel_rfl) (fun _ _ _ h => h) (Or.inr ⟨by rfl, rfl⟩) (by assumption) ?rest_5_50
          (try simp only [Act.put, List.setIfInBounds_toArray, List.set_cons_succ, List.set_cons_zero])
          refine wpAnyH_take (i := 51) (oi := { dst := some 70, op := Go.Op.move (Go.Operand.tmp 2), type := 4, pos := "ref.go:164", after := #[{ on := 40, ground := Go.Ground.guard }], guard := some (40, false) }) (v := undef) rfl (by kernel_rfl) (by kernel_rfl) (by kernel_rfl) (fun _ _ _ h => h) (Or.inr ⟨by rfl, rfl⟩) (by assumption) ?rest_5_51
          (try simp only [Act.put, List.setIfInBounds_toArray, List.set_cons_succ, List.set_cons_zero])
          refine wpAnyH_take (i := 52) (oi := { dst := some 71, op := Go.Op.call { callee := Go.Callee.value (Go.Operand.func 11), args := #[Go.Operand.tmp 64, Go.Operand.tmp 69, Go.Operand.tmp 70], argTypes := #[27, 27, 4] }, type := 4, pos := "ref.go:164", after := #[{ on := 45, ground := Go.Ground.data }, { on := 50, ground := Go.Ground.data }, { on := 51, ground := Go.Ground.data }, { on := 40, ground := Go.Ground.chain }, { on := 40, ground := Go.Ground.guard }], guard := some (40, false) }) (v := undef) rfl (by kernel_rfl) (by kernel_rfl) (by kernel_rfl) (fun _ _ _ h => h) (Or.inr ⟨by rfl, rfl⟩) (by assumption) ?rest_5_52
          (try simp only [Act.put, List.setIfInBounds_toArray, List.set_cons_succ, List.set_cons_zero])
          refine wpAnyH_take (i := 53) (oi := { dst := some 72, op := Go.Op.unOp Go.UnOp.not 4 (Go.Operand.tmp 71), type := 4, pos := "ref.go:164", after := #[{ on := 52, ground := Go.Ground.data }, { on := 40, ground := Go.Ground.guard }], guard := some (40, false) }) (v := undef) rfl (by kernel_rfl) (by kernel_rfl) (by kernel_rfl) (fun _ _ _ h => h) (Or.inr ⟨by rfl, rfl⟩) (by assumption) ?rest_5_53
          (try simp only [Act.put, List.setIfInBounds_toArray, List.set_cons_succ, List.set_cons_zero])
          refine wpAnyH_take (i := 54) (oi := { dst := some 73, op := Go.Op.pick (Go.Operand.tmp 59) (Go.Operand.const (Go.Value.bool true)) (Go.Operand.tmp 72), type := 4, pos := "ref.go:164", after := #[{ on := 40, ground := Go.Ground.data }, { on := 53, ground := Go.Ground.data }], guard := none }) (v := ?v_5_54) rfl (by kernel_rfl) (by kernel_rfl) (by kernel_rfl) (fun _ _ _ h => h) (Or.inl ⟨by rfl, ?hy_5_54⟩) (by assumption) ?rest_5_54
          case hy_5_54 => (intro w hSw; (try dsimp only at hSw); go_simp; (try (with_reducible rfl)))
          (try simp only [Act.put, List.setIfInBounds_toArray, List.set_cons_succ, List.set_cons_zero])
          refine wpAnyH_done (by kernel_rfl) ?_ _

          go_wp2
          go_ret
          exact ⟨by rw [HBAD.out]; rfl, hb.drew⟩

        have f3 : (mp != np) = false := by simpa using h3
        rw [show (!true || mp == np) = true from by simpa using h3, Bool.true_and] at hsame
        go_wp2
        rcases hsm : Tree.sames true ml nl with _ | _
        · rw [hsm] at hcall hsame
          have HC := Lib.hid hcall
          have HBAD := Lib.hid (Tree.sames_bad true la lb j hjl hjl2 (by rw [hx1, hx2]; exact hsame))
          clear hcall hsame hsm hx1 hx2
          refine wp_region_held_drew (S := fun w' => w'.cell? ⟨g, o + j * 4, none⟩ = some (.int .i64 mk) ∧ w'.cell? ⟨g, o + j * 4 + 1, none⟩ = some (.int .i64 mp) ∧ w'.cell? ⟨g, o + j * 4 + 2, none⟩ = some (.string ⟨mt.toArray⟩) ∧ w'.cell? ⟨g, o + j * 4 + 3, none⟩ = some (.slice A' ml.length c') ∧ w'.cell? ⟨g2, o2 + j * 4, none⟩ = some (.int .i64 nk) ∧ w'.cell? ⟨g2, o2 + j * 4 + 1, none⟩ = some (.int .i64 np) ∧ w'.cell? ⟨g2, o2 + j * 4 + 2, none⟩ = some (.string ⟨nt.toArray⟩) ∧ w'.cell? ⟨g2, o2 + j * 4 + 3, none⟩ = some (.slice B' nl.length d')) (by kernel_rfl) ?_ (fun hHeld0 => ?_)
          · first | assumption | go_keep
          refine wpAnyH_take (i := 0) (oi := { dst := some 19, op := Go.Op.move (Go.Operand.tmp 0), type := 27, pos := "ref.go:164", after := #[], guard := none }) (v := ?v_6_0) rfl (by kernel_rfl) (by kernel_rfl) (by kernel_rfl) (fun _ _ _ h => h) (Or.inl ⟨by rfl, ?hy_6_0⟩) (by assumption) ?rest_6_0
          case hy_6_0 => (intro w hSw; (try dsimp only at hSw); go_simp; (try (with_reducible rfl)))
          (try simp only [Act.put, List.setIfInBounds_toArray, List.set_cons_succ, List.set_cons_zero])
          refine wpAnyH_take (i := 1) (oi := { dst := some 20, op := Go.Op.move (Go.Operand.tmp 7), type := 3, pos := "ref.go:164", after := #[], guard := none }) (v := ?v_6_1) rfl (by kernel_rfl) (by kernel_rfl) (by kernel_rfl) (fun _ _ _ h => h) (Or.inl ⟨by rfl, ?hy_6_1⟩) (by assumption) ?rest_6_1
          case hy_6_1 => (intro w hSw; (try dsimp only at hSw); go_simp; (try (with_reducible rfl)))
          (try simp only [Act.put, List.setIfInBounds_toArray, List.set_cons_succ, List.set_cons_zero])
          refine wpAnyH_take (i := 2) (oi := { dst := some 21, op := Go.Op.indexAddr 27 (Go.Operand.tmp 19) (Go.Operand.tmp 20), type := 0, pos := "ref.go:164", after := #[{ on := 0, ground := Go.Ground.data }, { on := 1, ground := Go.Ground.data }], guard := none }) (v := ?v_6_2) rfl (by kernel_rfl) (by kernel_rfl) (by kernel_rfl) (fun _ _ _ h => h) (Or.inl ⟨by rfl, ?hy_6_2⟩) (by assumption) ?rest_6_2
          case hy_6_2 => (intro w hSw; (try dsimp only at hSw); go_simp; (try (with_reducible rfl)))
          (try simp only [Act.put, List.setIfInBounds_toArray, List.set_cons_succ, List.set_cons_zero])
          refine wpAnyH_take (i := 3) (oi := { dst := some 22, op := Go.Op.fieldAddr 43 (Go.Operand.tmp 21) 0, type := 0, pos := "ref.go:164", after := #[{ on := 2, ground := Go.Ground.data }], guard := none }) (v := ?v_6_3) rfl (by kernel_rfl) (by kernel_rfl) (by kernel_rfl) (fun _ _ _ h => h) (Or.inl ⟨by rfl, ?hy_6_3⟩) (by assumption) ?rest_6_3
          case hy_6_3 => (intro w hSw; (try dsimp only at hSw); go_simp; (try (with_reducible rfl)))
          (try simp only [Act.put, List.setIfInBounds_toArray, List.set_cons_succ, List.set_cons_zero])
          refine wpAnyH_take (i := 4) (oi := { dst := some 23, op := Go.Op.load 3 (Go.Operand.tmp 22), type := 3, pos := "ref.go:164", after := #[{ on := 3, ground := Go.Ground.data }], guard := none }) (v := ?v_6_4) rfl (by kernel_rfl) (by kernel_rfl) (by kernel_rfl) (fun _ _ _ h => h) (Or.inl ⟨by rfl, ?hy_6_4⟩) (by assumption) ?rest_6_4
          case hy_6_4 => (intro w hSw; (try dsimp only at hSw); go_simp; (try (with_reducible rfl)))
          (try simp only [Act.put, List.setIfInBounds_toArray, List.set_cons_succ, List.set_cons_zero])
          refine wpAnyH_take (i := 5) (oi := { dst := some 24, op := Go.Op.move (Go.Operand.tmp 1), type := 27, pos := "ref.go:164", after := #[], guard := none }) (v := ?v_6_5) rfl (by kernel_rfl) (by kernel_rfl) (by kernel_rfl) (fun _ _ _ h => h) (Or.inl ⟨by rfl, ?hy_6_5⟩) (by assumption) ?rest_6_5
          case hy_6_5 => (intro w hSw; (try dsimp only at hSw); go_simp; (try (with_reducible rfl)))
          (try simp only [Act.put, List.setIfInBounds_toArray, List.set_cons_succ, List.set_cons_zero])
          refine wpAnyH_take (i := 6) (oi := { dst := some 25, op := Go.Op.move (Go.Operand.tmp 7), type := 3, pos := "ref.go:164", after := #[], guard := none }) (v := ?v_6_6) rfl (by kernel_rfl) (by kernel_rfl) (by kernel_rfl) (fun _ _ _ h => h) (Or.inl ⟨by rfl, ?hy_6_6⟩) (by assumption) ?rest_6_6
          case hy_6_6 => (intro w hSw; (try dsimp only at hSw); go_simp; (try (with_reducible rfl)))
          (try simp only [Act.put, List.setIfInBounds_toArray, List.set_cons_succ, List.set_cons_zero])
          refine wpAnyH_take (i := 7) (oi := { dst := some 26, op := Go.Op.indexAddr 27 (Go.Operand.tmp 24) (Go.Operand.tmp 25), type := 0, pos := "ref.go:164", after := #[{ on := 5, ground := Go.Ground.data }, { on := 6, ground := Go.Ground.data }], guard := none }) (v := ?v_6_7) rfl (by kernel_rfl) (by kernel_rfl) (by kernel_rfl) (fun _ _ _ h => h) (Or.inl ⟨by rfl, ?hy_6_7⟩) (by assumption) ?rest_6_7
          case hy_6_7 => (intro w hSw; (try dsimp only at hSw); go_simp; (try (with_reducible rfl)))
          (try simp only [Act.put, List.setIfInBounds_toArray, List.set_cons_succ, List.set_cons_zero])
          refine wpAnyH_take (i := 8) (oi := { dst := some 27, op := Go.Op.fieldAddr 43 (Go.Operand.tmp 26) 0, type := 0, pos := "ref.go:164", after := #[{ on := 7, ground := Go.Ground.data }], guard := none }) (v := ?v_6_8) rfl (by kernel_rfl) (by kernel_rfl) (by kernel_rfl) (fun _ _ _ h => h) (Or.inl ⟨by rfl, ?hy_6_8⟩) (by assumption) ?rest_6_8
          case hy_6_8 => (intro w hSw; (try dsimp only at hSw); go_simp; (try (with_reducible rfl)))
          (try simp only [Act.put, List.setIfInBounds_toArray, List.set_cons_succ, List.set_cons_zero])
          refine wpAnyH_take (i := 9) (oi := { dst := some 28, op := Go.Op.load 3 (Go.Operand.tmp 27), type := 3, pos := "ref.go:164", after := #[{ on := 8, ground := Go.Ground.data }], guard := none }) (v := ?v_6_9) rfl (by kernel_rfl) (by kernel_rfl) (by kernel_rfl) (fun _ _ _ h => h) (Or.inl ⟨by rfl, ?hy_6_9⟩) (by assumption) ?rest_6_9
          case hy_6_9 => (intro w hSw; (try dsimp only at hSw); go_simp; (try (with_reducible rfl)))
          (try simp only [Act.put, List.setIfInBounds_toArray, List.set_cons_succ, List.set_cons_zero])
          refine wpAnyH_take (i := 10) (oi := { dst := some 29, op := Go.Op.binOp Go.BinOp.neq 3 (Go.Operand.tmp 23) (Go.Operand.tmp 28) 3, type := 4, pos := "ref.go:164", after := #[{ on := 4, ground := Go.Ground.data }, { on := 9, ground := Go.Ground.data }], guard := none }) (v := ?v_6_10) rfl (by kernel_rfl) (by kernel_rfl) (by kernel_rfl) (fun _ _ _ h => h) (Or.inl ⟨by rfl, ?hy_6_10⟩) (by assumption) ?rest_6_10
          case hy_6_10 => (intro w hSw; (try dsimp only at hSw); go_simp; (try (with_reducible rfl)))
          (try simp only [Act.put, List.setIfInBounds_toArray, List.set_cons_succ, List.set_cons_zero])
          refine wpAnyH_take (i := 11) (oi := { dst := some 30, op := Go.Op.move (Go.Operand.tmp 29), type := 4, pos := "ref.go:164", after := #[{ on := 10, ground := Go.Ground.data }], guard := none }) (v := ?v_6_11) rfl (by kernel_rfl) (by kernel_rfl) (by kernel_rfl) (fun _ _ _ h => h) (Or.inl ⟨by rfl, ?hy_6_11⟩) (by assumption) ?rest_6_11
          case hy_6_11 => (intro w hSw; (try dsimp only at hSw); go_simp; (try (with_reducible rfl)))
          (try simp only [Act.put, List.setIfInBounds_toArray, List.set_cons_succ, List.set_cons_zero])
          refine wpAnyH_take (i := 12) (oi := { dst := some 31, op := Go.Op.move (Go.Operand.tmp 0), type := 27, pos := "ref.go:164", after := #[{ on := 11, ground := Go.Ground.guard }], guard := some (11, false) }) (v := ?v_6_12) rfl (by kernel_rfl) (by kernel_rfl) (by kernel_rfl) (fun _ _ _ h => h) (Or.inl ⟨by rfl, ?hy_6_12⟩) (by assumption) ?rest_6_12
          case hy_6_12 => (intro w hSw; (try dsimp only at hSw); go_simp; (try (with_reducible rfl)))
          (try simp only [Act.put, List.setIfInBounds_toArray, List.set_cons_succ, List.set_cons_zero])
          refine wpAnyH_take (i := 13) (oi := { dst := some 32, op := Go.Op.move (Go.Operand.tmp 7), type := 3, pos := "ref.go:164", after := #[{ on := 11, ground := Go.Ground.guard }], guard := some (11, false) }) (v := ?v_6_13) rfl (by kernel_rfl) (by kernel_rfl) (by kernel_rfl) (fun _ _ _ h => h) (Or.inl ⟨by rfl, ?hy_6_13⟩) (by assumption) ?rest_6_13
          case hy_6_13 => (intro w hSw; (try dsimp only at hSw); go_simp; (try (with_reducible rfl)))
          (try simp only [Act.put, List.setIfInBounds_toArray, List.set_cons_succ, List.set_cons_zero])
          refine wpAnyH_take (i := 14) (oi := { dst := some 33, op := Go.Op.indexAddr 27 (Go.Operand.tmp 31) (Go.Operand.tmp 32), type := 0, pos := "ref.go:164", after := #[{ on := 12, ground := Go.Ground.data }, { on := 13, ground := Go.Ground.data }, { on := 11, ground := Go.Ground.guard }], guard := some (11, false) }) (v := ?v_6_14) rfl (by kernel_rfl) (by kernel_rfl) (by kernel_rfl) (fun _ _ _ h => h) (Or.inl ⟨by rfl, ?hy_6_14⟩) (by assumption) ?rest_6_14
          case hy_6_14 => (intro w hSw; (try dsimp only at hSw); go_simp; (try (with_reducible rfl)))
          (try simp only [Act.put, List.setIfInBounds_toArray, List.set_cons_succ, List.set_cons_zero])
          refine wpAnyH_take (i := 15) (oi := { dst := some 34, op := Go.Op.fieldAddr 43 (Go.Operand.tmp 33) 2, type := 0, pos := "ref.go:164", after := #[{ on := 14, ground := Go.Ground.data }, { on := 11, ground := Go.Ground.guard }], guard := some (11, false) }) (v := ?v_6_15) rfl (by kernel_rfl) (by kernel_rfl) (by kernel_rfl) (fun _ _ _ h => h) (Or.inl ⟨by rfl, ?hy_6_15⟩) (by assumption) ?rest_6_15
          case hy_6_15 => (intro w hSw; (try dsimp only at hSw); go_simp; (try (with_reducible rfl)))
          (try simp only [Act.put, List.setIfInBounds_toArray, List.set_cons_succ, List.set_cons_zero])
          refine wpAnyH_take (i := 16) (oi := { dst := some 35, op := Go.Op.load 9 (Go.Operand.tmp 34), type := 9, pos := "ref.go:164", after := #[{ on := 15, ground := Go.Ground.data }, { on := 11, ground := Go.Ground.guard }], guard := some (11, false) }) (v := ?v_6_16) rfl (by kernel_rfl) (by kernel_rfl) (by kernel_rfl) (fun _ _ _ h => h) (Or.inl ⟨by rfl, ?hy_6_16⟩) (by assumption) ?rest_6_16
          case hy_6_16 => (intro w hSw; (try dsimp only at hSw); go_simp; (try (with_reducible rfl)))
          (try simp only [Act.put, List.setIfInBounds_toArray, List.set_cons_succ, List.set_cons_zero])
          refine wpAnyH_take (i := 17) (oi := { dst := some 36, op := Go.Op.move (Go.Operand.tmp 1), type := 27, pos := "ref.go:164", after := #[{ on := 11, ground := Go.Ground.guard }], guard := some (11, false) }) (v := ?v_6_17) rfl (by kernel_rfl) (by kernel_rfl) (by kernel_rfl) (fun _ _ _ h => h) (Or.inl ⟨by rfl, ?hy_6_17⟩) (by assumption) ?rest_6_17
          case hy_6_17 => (intro w hSw; (try dsimp only at hSw); go_simp; (try (with_reducible rfl)))
          (try simp only [Act.put, List.setIfInBounds_toArray, List.set_cons_succ, List.set_cons_zero])
          refine wpAnyH_take (i := 18) (oi := { dst := some 37, op := Go.Op.move (Go.Operand.tmp 7), type := 3, pos := "ref.go:164", after := #[{ on := 11, ground := Go.Ground.guard }], guard := some (11, false) }) (v := ?v_6_18) rfl (by kernel_rfl) (by kernel_rfl) (by kernel_rfl) (fun _ _ _ h => h) (Or.inl ⟨by rfl, ?hy_6_18⟩) (by assumption) ?rest_6_18
          case hy_6_18 => (intro w hSw; (try dsimp only at hSw); go_simp; (try (with_reducible rfl)))
          (try simp only [Act.put, List.setIfInBounds_toArray, List.set_cons_succ, List.set_cons_zero])
          refine wpAnyH_take (i := 19) (oi := { dst := some 38, op := Go.Op.indexAddr 27 (Go.Operand.tmp 36) (Go.Operand.tmp 37), type := 0, pos := "ref.go:164", after := #[{ on := 17, ground := Go.Ground.data }, { on := 18, ground := Go.Ground.data }, { on := 11, ground := Go.Ground.guard }], guard := some (11, false) }) (v := ?v_6_19) rfl (by kernel_rfl) (by kernel_rfl) (by kernel_rfl) (fun _ _ _ h => h) (Or.inl ⟨by rfl, ?hy_6_19⟩) (by assumption) ?rest_6_19
          case hy_6_19 => (intro w hSw; (try dsimp only at hSw); go_simp; (try (with_reducible rfl)))
          (try simp only [Act.put, List.setIfInBounds_toArray, List.set_cons_succ, List.set_cons_zero])
          refine wpAnyH_take (i := 20) (oi := { dst := some 39, op := Go.Op.fieldAddr 43 (Go.Operand.tmp 38) 2, type := 0, pos := "ref.go:164", after := #[{ on := 19, ground := Go.Ground.data }, { on := 11, ground := Go.Ground.guard }], guard := some (11, false) }) (v := ?v_6_20) rfl (by kernel_rfl) (by kernel_rfl) (by kernel_rfl) (fun _ _ _ h => h) (Or.inl ⟨by rfl, ?hy_6_20⟩) (by assumption) ?rest_6_20
          case hy_6_20 => (intro w hSw; (try dsimp only at hSw); go_simp; (try (with_reducible rfl)))
          (try simp only [Act.put, List.setIfInBounds_toArray, List.set_cons_succ, List.set_cons_zero])
          refine wpAnyH_take (i := 21) (oi := { dst := some 40, op := Go.Op.load 9 (Go.Operand.tmp 39), type := 9, pos := "ref.go:164", after := #[{ on := 20, ground := Go.Ground.data }, { on := 11, ground := Go.Ground.guard }], guard := some (11, false) }) (v := ?v_6_21) rfl (by kernel_rfl) (by kernel_rfl) (by kernel_rfl) (fun _ _ _ h => h) (Or.inl ⟨by rfl, ?hy_6_21⟩) (by assumption) ?rest_6_21
          case hy_6_21 => (intro w hSw; (try dsimp only at hSw); go_simp; (try (with_reducible rfl)))
          (try simp only [Act.put, List.setIfInBounds_toArray, List.set_cons_succ, List.set_cons_zero])
          refine wpAnyH_take (i := 22) (oi := { dst := some 41, op := Go.Op.binOp Go.BinOp.neq 9 (Go.Operand.tmp 35) (Go.Operand.tmp 40) 9, type := 4, pos := "ref.go:164", after := #[{ on := 16, ground := Go.Ground.data }, { on := 21, ground := Go.Ground.data }, { on := 11, ground := Go.Ground.guard }], guard := some (11, false) }) (v := ?v_6_22) rfl (by kernel_rfl) (by kernel_rfl) (by kernel_rfl) (fun _ _ _ h => h) (Or.inl ⟨by rfl, ?hy_6_22⟩) (by assumption) ?rest_6_22
          case hy_6_22 => (intro w hSw; (try dsimp only at hSw); go_simp; (try (with_reducible rfl)))
          (try simp only [Act.put, List.setIfInBounds_toArray, List.set_cons_succ, List.set_cons_zero])
          refine wpAnyH_take (i := 23) (oi := { dst := some 42, op := Go.Op.pick (Go.Operand.tmp 30) (Go.Operand.const (Go.Value.bool true)) (Go.Operand.tmp 41), type := 4, pos := "ref.go:164", after := #[{ on := 11, ground := Go.Ground.data }, { on := 22, ground := Go.Ground.data }], guard := none }) (v := ?v_6_23) rfl (by kernel_rfl) (by kernel_rfl) (by kernel_rfl) (fun _ _ _ h => h) (Or.inl ⟨by rfl, ?hy_6_23⟩) (by assumption) ?rest_6_23
          case hy_6_23 => (intro w hSw; (try dsimp only at hSw); go_simp; (try (with_reducible rfl)))
          (try simp only [Act.put, List.setIfInBounds_toArray, List.set_cons_succ, List.set_cons_zero])
          refine wpAnyH_take (i := 24) (oi := { dst := some 43, op := Go.Op.move (Go.Operand.tmp 42), type := 4, pos := "ref.go:164", after := #[{ on := 23, ground := Go.Ground.data }, { on := 11, ground := Go.Ground.chain }], guard := none }) (v := ?v_6_24) rfl (by kernel_rfl) (by kernel_rfl) (by kernel_rfl) (fun _ _ _ h => h) (Or.inl ⟨by rfl, ?hy_6_24⟩) (by assumption) ?rest_6_24
          case hy_6_24 => (intro w hSw; (try dsimp only at hSw); go_simp; (try (with_reducible rfl)))
          (try simp only [Act.put, List.setIfInBounds_toArray, List.set_cons_succ, List.set_cons_zero])
          refine wpAnyH_take (i := 25) (oi := { dst := some 44, op := Go.Op.move (Go.Operand.tmp 2), type := 4, pos := "ref.go:164", after := #[{ on := 24, ground := Go.Ground.guard }], guard := some (24, false) }) (v := ?v_6_25) rfl (by kernel_rfl) (by kernel_rfl) (by kernel_rfl) (fun _ _ _ h => h) (Or.inl ⟨by rfl, ?hy_6_25⟩) (by assumption) ?rest_6_25
          case hy_6_25 => (intro w hSw; (try dsimp only at hSw); go_simp; (try (with_reducible rfl)))
          (try simp only [Act.put, List.setIfInBounds_toArray, List.set_cons_succ, List.set_cons_zero])
          refine wpAnyH_take (i := 26) (oi := { dst := some 45, op := Go.Op.move (Go.Operand.tmp 44), type := 4, pos := "ref.go:164", after := #[{ on := 25, ground := Go.Ground.data }, { on := 24, ground := Go.Ground.chain }, { on := 24, ground := Go.Ground.guard }], guard := some (24, false) }) (v := ?v_6_26) rfl (by kernel_rfl) (by kernel_rfl) (by kernel_rfl) (fun _ _ _ h => h) (Or.inl ⟨by rfl, ?hy_6_26⟩) (by assumption) ?rest_6_26
          case hy_6_26 => (intro w hSw; (try dsimp only at hSw); go_simp; (try (with_reducible rfl)))
          (try simp only [Act.put, List.setIfInBounds_toArray, List.set_cons_succ, List.set_cons_zero])
          refine wpAnyH_take (i := 27) (oi := { dst := some 46, op := Go.Op.move (Go.Operand.tmp 0), type := 27, pos := "ref.go:164", after := #[{ on := 26, ground := Go.Ground.guard }], guard := some (26, true) }) (v := ?v_6_27) rfl (by kernel_rfl) (by kernel_rfl) (by kernel_rfl) (fun _ _ _ h => h) (Or.inl ⟨by rfl, ?hy_6_27⟩) (by assumption) ?rest_6_27
          case hy_6_27 => (intro w hSw; (try dsimp only at hSw); go_simp; (try (with_reducible rfl)))
          (try simp only [Act.put, List.setIfInBounds_toArray, List.set_cons_succ, List.set_cons_zero])
          refine wpAnyH_take (i := 28) (oi := { dst := some 47, op := Go.Op.move (Go.Operand.tmp 7), type := 3, pos := "ref.go:164", after := #[{ on := 26, ground := Go.Ground.guard }], guard := some (26, true) }) (v := ?v_6_28) rfl (by kernel_rfl) (by kernel_rfl) (by kernel_rfl) (fun _ _ _ h => h) (Or.inl ⟨by rfl, ?hy_6_28⟩) (by assumption) ?rest_6_28
          case hy_6_28 => (intro w hSw; (try dsimp only at hSw); go_simp; (try (with_reducible rfl)))
          (try simp only [Act.put, List.setIfInBounds_toArray, List.set_cons_succ, List.set_cons_zero])
          refine wpAnyH_take (i := 29) (oi := { dst := some 48, op := Go.Op.indexAddr 27 (Go.Operand.tmp 46) (Go.Operand.tmp 47), type := 0, pos := "ref.go:164", after := #[{ on := 27, ground := Go.Ground.data }, { on := 28, ground := Go.Ground.data }, { on := 26, ground := Go.Ground.guard }], guard := some (26, true) }) (v := ?v_6_29) rfl (by kernel_rfl) (by kernel_rfl) (by kernel_rfl) (fun _ _ _ h => h) (Or.inl ⟨by rfl, ?hy_6_29⟩) (by assumption) ?rest_6_29
          case hy_6_29 => (intro w hSw; (try dsimp only at hSw); go_simp; (try (with_reducible rfl)))
          (try simp only [Act.put, List.setIfInBounds_toArray, List.set_cons_succ, List.set_cons_zero])
          refine wpAnyH_take (i := 30) (oi := { dst := some 49, op := Go.Op.fieldAddr 43 (Go.Operand.tmp 48) 1, type := 0, pos := "ref.go:164", after := #[{ on := 29, ground := Go.Ground.data }, { on := 26, ground := Go.Ground.guard }], guard := some (26, true) }) (v := ?v_6_30) rfl (by kernel_rfl) (by kernel_rfl) (by kernel_rfl) (fun _ _ _ h => h) (Or.inl ⟨by rfl, ?hy_6_30⟩) (by assumption) ?rest_6_30
          case hy_6_30 => (intro w hSw; (try dsimp only at hSw); go_simp; (try (with_reducible rfl)))
          (try simp only [Act.put, List.setIfInBounds_toArray, List.set_cons_succ, List.set_cons_zero])
          refine wpAnyH_take (i := 31) (oi := { dst := some 50, op := Go.Op.load 3 (Go.Operand.tmp 49), type := 3, pos := "ref.go:164", after := #[{ on := 30, ground := Go.Ground.data }, { on := 26, ground := Go.Ground.guard }], guard := some (26, true) }) (v := ?v_6_31) rfl (by kernel_rfl) (by kernel_rfl) (by kernel_rfl) (fun _ _ _ h => h) (Or.inl ⟨by rfl, ?hy_6_31⟩) (by assumption) ?rest_6_31
          case hy_6_31 => (intro w hSw; (try dsimp only at hSw); go_simp; (try (with_reducible rfl)))
          (try simp only [Act.put, List.setIfInBounds_toArray, List.set_cons_succ, List.set_cons_zero])
          refine wpAnyH_take (i := 32) (oi := { dst := some 51, op := Go.Op.move (Go.Operand.tmp 1), type := 27, pos := "ref.go:164", after := #[{ on := 26, ground := Go.Ground.guard }], guard := some (26, true) }) (v := ?v_6_32) rfl (by kernel_rfl) (by kernel_rfl) (by kernel_rfl) (fun _ _ _ h => h) (Or.inl ⟨by rfl, ?hy_6_32⟩) (by assumption) ?rest_6_32
          case hy_6_32 => (intro w hSw; (try dsimp only at hSw); go_simp; (try (with_reducible rfl)))
          (try simp only [Act.put, List.setIfInBounds_toArray, List.set_cons_succ, List.set_cons_zero])
          refine wpAnyH_take (i := 33) (oi := { dst := some 52, op := Go.Op.move (Go.Operand.tmp 7), type := 3, pos := "ref.go:164", after := #[{ on := 26, ground := Go.Ground.guard }], guard := some (26, true) }) (v := ?v_6_33) rfl (by kernel_rfl) (by kernel_rfl) (by kernel_rfl) (fun _ _ _ h => h) (Or.inl ⟨by rfl, ?hy_6_33⟩) (by assumption) ?rest_6_33
          case hy_6_33 => (intro w hSw; (try dsimp only at hSw); go_simp; (try (with_reducible rfl)))
          (try simp only [Act.put, List.setIfInBounds_toArray, List.set_cons_succ, List.set_cons_zero])
          refine wpAnyH_take (i := 34) (oi := { dst := some 53, op := Go.Op.indexAddr 27 (Go.Operand.tmp 51) (Go.Operand.tmp 52), type := 0, pos := "ref.go:164", after := #[{ on := 32, ground := Go.Ground.data }, { on := 33, ground := Go.Ground.data }, { on := 26, ground := Go.Ground.guard }], guard := some (26, true) }) (v := ?v_6_34) rfl (by kernel_rfl) (by kernel_rfl) (by kernel_rfl) (fun _ _ _ h => h) (Or.inl ⟨by rfl, ?hy_6_34⟩) (by assumption) ?rest_6_34
          case hy_6_34 => (intro w hSw; (try dsimp only at hSw); go_simp; (try (with_reducible rfl)))
          (try simp only [Act.put, List.setIfInBounds_toArray, List.set_cons_succ, List.set_cons_zero])
          refine wpAnyH_take (i := 35) (oi := { dst := some 54, op := Go.Op.fieldAddr 43 (Go.Operand.tmp 53) 1, type := 0, pos := "ref.go:164", after := #[{ on := 34, ground := Go.Ground.data }, { on := 26, ground := Go.Ground.guard }], guard := some (26, true) }) (v := ?v_6_35) rfl (by kernel_rfl) (by kernel_rfl) (by kernel_rfl) (fun _ _ _ h => h) (Or.inl ⟨by rfl, ?hy_6_35⟩) (by assumption) ?rest_6_35
          case hy_6_35 => (intro w hSw; (try dsimp only at hSw); go_simp; (try (with_reducible rfl)))
          (try simp only [Act.put, List.setIfInBounds_toArray, List.set_cons_succ, List.set_cons_zero])
          refine wpAnyH_take (i := 36) (oi := { dst := some 55, op := Go.Op.load 3 (Go.Operand.tmp 54), type := 3, pos := "ref.go:164", after := #[{ on := 35, ground := Go.Ground.data }, { on := 26, ground := Go.Ground.guard }], guard := some (26, true) }) (v := ?v_6_36) rfl (by kernel_rfl) (by kernel_rfl) (by kernel_rfl) (fun _ _ _ h => h) (Or.inl ⟨by rfl, ?hy_6_36⟩) (by assumption) ?rest_6_36
          case hy_6_36 => (intro w hSw; (try dsimp only at hSw); go_simp; (try (with_reducible rfl)))
          (try simp only [Act.put, List.setIfInBounds_toArray, List.set_cons_succ, List.set_cons_zero])
          refine wpAnyH_take (i := 37) (oi := { dst := some 56, op := Go.Op.binOp Go.BinOp.neq 3 (Go.Operand.tmp 50) (Go.Operand.tmp 55) 3, type := 4, pos := "ref.go:164", after := #[{ on := 31, ground := Go.Ground.data }, { on := 36, ground := Go.Ground.data }, { on := 26, ground := Go.Ground.guard }], guard := some (26, true) }) (v := ?v_6_37) rfl (by kernel_rfl) (by kernel_rfl) (by kernel_rfl) (fun _ _ _ h => h) (Or.inl ⟨by rfl, ?hy_6_37⟩) (by assumption) ?rest_6_37
          case hy_6_37 => (intro w hSw; (try dsimp only at hSw); go_simp; (try (with_reducible rfl)))
          (try simp only [Act.put, List.setIfInBounds_toArray, List.set_cons_succ, List.set_cons_zero])
          refine wpAnyH_take (i := 38) (oi := { dst := some 57, op := Go.Op.pick (Go.Operand.tmp 45) (Go.Operand.tmp 56) (Go.Operand.const (Go.Value.bool false)), type := 4, pos := "ref.go:164", after := #[{ on := 26, ground := Go.Ground.data }, { on := 37, ground := Go.Ground.data }, { on := 24, ground := Go.Ground.guard }], guard := some (24, false) }) (v := ?v_6_38) rfl (by kernel_rfl) (by kernel_rfl) (by kernel_rfl) (fun _ _ _ h => h) (Or.inl ⟨by rfl, ?hy_6_38⟩) (by assumption) ?rest_6_38
          case hy_6_38 => (intro w hSw; (try dsimp only at hSw); go_simp; (try (with_reducible rfl)))
          (try simp only [Act.put, List.setIfInBounds_toArray, List.set_cons_succ, List.set_cons_zero])
          refine wpAnyH_take (i := 39) (oi := { dst := some 58, op := Go.Op.pick (Go.Operand.tmp 43) (Go.Operand.const (Go.Value.bool true)) (Go.Operand.tmp 57), type := 4, pos := "ref.go:164", after := #[{ on := 24, ground := Go.Ground.data }, { on := 38, ground := Go.Ground.data }], guard := none }) (v := ?v_6_39) rfl (by kernel_rfl) (by kernel_rfl) (by kernel_rfl) (fun _ _ _ h => h) (Or.inl ⟨by rfl, ?hy_6_39⟩) (by assumption) ?rest_6_39
          case hy_6_39 => (intro w hSw; (try dsimp only at hSw); go_simp; (try (with_reducible rfl)))
          (try simp only [Act.put, List.setIfInBounds_toArray, List.set_cons_succ, List.set_cons_zero])
          refine wpAnyH_take (i := 40) (oi := { dst := some 59, op := Go.Op.move (Go.Operand.tmp 58), type := 4, pos := "ref.go:164", after := #[{ on := 39, ground := Go.Ground.data }, { on := 26, ground := Go.Ground.chain }], guard := none }) (v := ?v_6_40) rfl (by kernel_rfl) (by kernel_rfl) (by kernel_rfl) (fun _ _ _ h => h) (Or.inl ⟨by rfl, ?hy_6_40⟩) (by assumption) ?rest_6_40
          case hy_6_40 => (intro w hSw; (try dsimp only at hSw); go_simp; (try (with_reducible rfl)))
          (try simp only [Act.put, List.setIfInBounds_toArray, List.set_cons_succ, List.set_cons_zero])
          refine wpAnyH_take (i := 41) (oi := { dst := some 60, op := Go.Op.move (Go.Operand.tmp 0), type := 27, pos := "ref.go:164", after := #[{ on := 40, ground := Go.Ground.guard }], guard := some (40, false) }) (v := ?v_6_41) rfl (by kernel_rfl) (by kernel_rfl) (by kernel_rfl) (fun _ _ _ h => h) (Or.inl ⟨by rfl, ?hy_6_41⟩) (by assumption) ?rest_6_41
          case hy_6_41 => (intro w hSw; (try dsimp only at hSw); go_simp; (try (with_reducible rfl)))
          (try simp only [Act.put, List.setIfInBounds_toArray, List.set_cons_succ, List.set_cons_zero])
          refine wpAnyH_take (i := 42) (oi := { dst := some 61, op := Go.Op.move (Go.Operand.tmp 7), type := 3, pos := "ref.go:164", after := #[{ on := 40, ground := Go.Ground.guard }], guard := some (40, false) }) (v := ?v_6_42) rfl (by kernel_rfl) (by kernel_rfl) (by kernel_rfl) (fun _ _ _ h => h) (Or.inl ⟨by rfl, ?hy_6_42⟩) (by assumption) ?rest_6_42
          case hy_6_42 => (intro w hSw; (try dsimp only at hSw); go_simp; (try (with_reducible rfl)))
          (try simp only [Act.put, List.setIfInBounds_toArray, List.set_cons_succ, List.set_cons_zero])
          refine wpAnyH_take (i := 43) (oi := { dst := some 62, op := Go.Op.indexAddr 27 (Go.Operand.tmp 60) (Go.Operand.tmp 61), type := 0, pos := "ref.go:164", after := #[{ on := 41, ground := Go.Ground.data }, { on := 42, ground := Go.Ground.data }, { on := 40, ground := Go.Ground.guard }], guard := some (40, false) }) (v := ?v_6_43) rfl (by kernel_rfl) (by kernel_rfl) (by kernel_rfl) (fun _ _ _ h => h) (Or.inl ⟨by rfl, ?hy_6_43⟩) (by assumption) ?rest_6_43
          case hy_6_43 => (intro w hSw; (try dsimp only at hSw); go_simp; (try (with_reducible rfl)))
          (try simp only [Act.put, List.setIfInBounds_toArray, List.set_cons_succ, List.set_cons_zero])
          refine wpAnyH_take (i := 44) (oi := { dst := some 63, op := Go.Op.fieldAddr 43 (Go.Operand.tmp 62) 3, type := 0, pos := "ref.go:164", after := #[{ on := 43, ground := Go.Ground.data }, { on := 40, ground := Go.Ground.guard }], guard := some (40, false) }) (v := ?v_6_44) rfl (by kernel_rfl) (by kernel_rfl) (by kernel_rfl) (fun _ _ _ h => h) (Or.inl ⟨by rfl, ?hy_6_44⟩) (by assumption) ?rest_6_44
          case hy_6_44 => (intro w hSw; (try dsimp only at hSw); go_simp; (try (with_reducible rfl)))
          (try simp only [Act.put, List.setIfInBounds_toArray, List.set_cons_succ, List.set_cons_zero])
          refine wpAnyH_take (i := 45) (oi := { dst := some 64, op := Go.Op.load 27 (Go.Operand.tmp 63), type := 27, pos := "ref.go:164", after := #[{ on := 44, ground := Go.Ground.data }, { on := 40, ground := Go.Ground.guard }], guard := some (40, false) }) (v := ?v_6_45) rfl (by kernel_rfl) (by kernel_rfl) (by kernel_rfl) (fun _ _ _ h => h) (Or.inl ⟨by rfl, ?hy_6_45⟩) (by assumption) ?rest_6_45
          case hy_6_45 => (intro w hSw; (try dsimp only at hSw); go_simp; (try (with_reducible rfl)))
          (try simp only [Act.put, List.setIfInBounds_toArray, List.set_cons_succ, List.set_cons_zero])
          refine wpAnyH_take (i := 46) (oi := { dst := some 65, op := Go.Op.move (Go.Operand.tmp 1), type := 27, pos := "ref.go:164", after := #[{ on := 40, ground := Go.Ground.guard }], guard := some (40, false) }) (v := ?v_6_46) rfl (by kernel_rfl) (by kernel_rfl) (by kernel_rfl) (fun _ _ _ h => h) (Or.inl ⟨by rfl, ?hy_6_46⟩) (by assumption) ?rest_6_46
          case hy_6_46 => (intro w hSw; (try dsimp only at hSw); go_simp; (try (with_reducible rfl)))
          (try simp only [Act.put, List.setIfInBounds_toArray, List.set_cons_succ, List.set_cons_zero])
          refine wpAnyH_take (i := 47) (oi := { dst := some 66, op := Go.Op.move (Go.Operand.tmp 7), type := 3, pos := "ref.go:164", after := #[{ on := 40, ground := Go.Ground.guard }], guard := some (40, false) }) (v := ?v_6_47) rfl (by kernel_rfl) (by kernel_rfl) (by kernel_rfl) (fun _ _ _ h => h) (Or.inl ⟨by rfl, ?hy_6_47⟩) (by assumption) ?rest_6_47
          case hy_6_47 => (intro w hSw; (try dsimp only at hSw); go_simp; (try (with_reducible rfl)))
          (try simp only [Act.put, List.setIfInBounds_toArray, List.set_cons_succ, List.set_cons_zero])
          refine wpAnyH_take (i := 48) (oi := { dst := some 67, op := Go.Op.indexAddr 27 (Go.Operand.tmp 65) (Go.Operand.tmp 66), type := 0, pos := "ref.go:164", after := #[{ on := 46, ground := Go.Ground.data }, { on := 47, ground := Go.Ground.data }, { on := 40, ground := Go.Ground.guard }], guard := some (40, false) }) (v := ?v_6_48) rfl (by kernel_rfl) (by kernel_rfl) (by kernel_rfl) (fun _ _ _ h => h) (Or.inl ⟨by rfl, ?hy_6_48⟩) (by assumption) ?rest_6_48
          case hy_6_48 => (intro w hSw; (try dsimp only at hSw); go_simp; (try (with_reducible rfl)))
          (try simp only [Act.put, List.setIfInBounds_toArray, List.set_cons_succ, List.set_cons_zero])
          refine wpAnyH_take (i := 49) (oi := { dst := some 68, op := Go.Op.fieldAddr 43 (Go.Operand.tmp 67) 3, type := 0, pos := "ref.go:164", after := #[{ on := 48, ground := Go.Ground.data }, { on := 40, ground := Go.Ground.guard }], guard := some (40, false) }) (v := ?v_6_49) rfl (by kernel_rfl) (by kernel_rfl) (by kernel_rfl) (fun _ _ _ h => h) (Or.inl ⟨by rfl, ?hy_6_49⟩) (by assumption) ?rest_6_49
          case hy_6_49 => (intro w hSw; (try dsimp only at hSw); go_simp; (try (with_reducible rfl)))
          (try simp only [Act.put, List.setIfInBounds_toArray, List.set_cons_succ, List.set_cons_zero])
          refine wpAnyH_take (i := 50) (oi := { dst := some 69, op := Go.Op.load 27 (Go.Operand.tmp 68), type := 27, pos := "ref.go:164", after := #[{ on := 49, ground := Go.Ground.data }, { on := 40, ground := Go.Ground.guard }], guard := some (40, false) }) (v := ?v_6_50) rfl (by kernel_rfl) (by kernel_rfl) (by kernel_rfl) (fun _ _ _ h => h) (Or.inl ⟨by rfl, ?hy_6_50⟩) (by assumption) ?rest_6_50
          case hy_6_50 => (intro w hSw; (try dsimp only at hSw); go_simp; (try (with_reducible rfl)))
          (try simp only [Act.put, List.setIfInBounds_toArray, List.set_cons_succ, List.set_cons_zero])
          refine wpAnyH_take (i := 51) (oi := { dst := some 70, op := Go.Op.move (Go.Operand.tmp 2), type := 4, pos := "ref.go:164", after := #[{ on := 40, ground := Go.Ground.guard }], guard := some (40, false) }) (v := ?v_6_51) rfl (by kernel_rfl) (by kernel_rfl) (by kernel_rfl) (fun _ _ _ h => h) (Or.inl ⟨by rfl, ?hy_6_51⟩) (by assumption) ?rest_6_51
          case hy_6_51 => (intro w hSw; (try dsimp only at hSw); go_simp; (try (with_reducible rfl)))
          (try simp only [Act.put, List.setIfInBounds_toArray, List.set_cons_succ, List.set_cons_zero])
          refine wpAnyH_ready (rs := [52]) (by kernel_rfl) (by simp) ?_
          refine AllReadyH.cons (o := { dst := some 71, op := Go.Op.call { callee := Go.Callee.value (Go.Operand.func 11), args := #[Go.Operand.tmp 64, Go.Operand.tmp 69, Go.Operand.tmp 70], argTypes := #[27, 27, 4] }, type := 4, pos := "ref.go:164", after := #[{ on := 45, ground := Go.Ground.data }, { on := 50, ground := Go.Ground.data }, { on := 51, ground := Go.Ground.data }, { on := 40, ground := Go.Ground.chain }, { on := 40, ground := Go.Ground.guard }], guard := some (40, false) }) rfl (fun K hK => ?_) AllReadyH.nil
          go_simp
          (go_at_call 11; refine (HC.out.mono ?_); rintro e w2 ⟨rfl, hb2⟩; have y0 := (hb2.cell (p := ⟨g, o + j * 4, none⟩) (show g < wr.drew.heap.size from hgl2)).trans d0; have y1 := (hb2.cell (p := ⟨g, o + j * 4 + 1, none⟩) (show g < wr.drew.heap.size from hgl2)).trans d1; have y2 := (hb2.cell (p := ⟨g, o + j * 4 + 2, none⟩) (show g < wr.drew.heap.size from hgl2)).trans d2; have y3 := (hb2.cell (p := ⟨g, o + j * 4 + 3, none⟩) (show g < wr.drew.heap.size from hgl2)).trans d3; have z0 := (hb2.cell (p := ⟨g2, o2 + j * 4, none⟩) (show g2 < wr.drew.heap.size from hhl2)).trans e0; have z1 := (hb2.cell (p := ⟨g2, o2 + j * 4 + 1, none⟩) (show g2 < wr.drew.heap.size from hhl2)).trans e1; have z2 := (hb2.cell (p := ⟨g2, o2 + j * 4 + 2, none⟩) (show g2 < wr.drew.heap.size from hhl2)).trans e2; have z3 := (hb2.cell (p := ⟨g2, o2 + j * 4 + 3, none⟩) (show g2 < wr.drew.heap.size from hhl2)).trans e3; have hb3 : Below w.heap.size w w2 := hb.drew.trans (hb2.mono hb.size))
          (try dsimp only)
          refine hK.out _ _ ?_ (fun hHeld1 => ?_)
          · (try dsimp only); first | assumption | trivial | go_keep
          clear hK K hHeld0
          (try simp only [Act.put, List.setIfInBounds_toArray, List.set_cons_succ, List.set_cons_zero])
          refine wpAnyH_take (i := 53) (oi := { dst := some 72, op := Go.Op.unOp Go.UnOp.not 4 (Go.Operand.tmp 71), type := 4, pos := "ref.go:164", after := #[{ on := 52, ground := Go.Ground.data }, { on := 40, ground := Go.Ground.guard }], guard := some (40, false) }) (v := ?v_6_53) rfl (by kernel_rfl) (by kernel_rfl) (by kernel_rfl) (fun _ _ _ h => h) (Or.inl ⟨by rfl, ?hy_6_53⟩) (by assumption) ?rest_6_53
          case hy_6_53 => (intro w hSw; (try dsimp only at hSw); go_simp; (try (with_reducible rfl)))
          (try simp only [Act.put, List.setIfInBounds_toArray, List.set_cons_succ, List.set_cons_zero])
          refine wpAnyH_take (i := 54) (oi := { dst := some 73, op := Go.Op.pick (Go.Operand.tmp 59) (Go.Operand.const (Go.Value.bool true)) (Go.Operand.tmp 72), type := 4, pos := "ref.go:164", after := #[{ on := 40, ground := Go.Ground.data }, { on := 53, ground := Go.Ground.data }], guard := none }) (v := ?v_6_54) rfl (by kernel_rfl) (by kernel_rfl) (by kernel_rfl) (fun _ _ _ h => h) (Or.inl ⟨by rfl, ?hy_6_54⟩) (by assumption) ?rest_6_54
          case hy_6_54 => (intro w hSw; (try dsimp only at hSw); go_simp; (try (with_reducible rfl)))
          (try simp only [Act.put, List.setIfInBounds_toArray, List.set_cons_succ, List.set_cons_zero])
          refine wpAnyH_done (by kernel_rfl) ?_ _
          go_wp2
          go_ret
          exact ⟨by rw [HBAD.out]; rfl, hb3⟩
        · rw [hsm] at hcall hsame
          have HC := Lib.hid hcall
          have hall2 : ∀ i (h1 : i < la.length) (h2 : i < lb.length), i < j + 1 → Tree.same true la[i] lb[i] = true := by
            intro i h1 h2 h3
            rcases Nat.lt_or_ge i j with h4 | h4
            · exact hall i h1 h2 h4
            · obtain rfl : i = j := by omega
              rw [hx1, hx2]; exact hsame
          have HA := Lib.hid hall2
          clear hcall hsame hsm hx1 hx2 hall hall2
          refine wp_region_held_drew (S := fun w' => w'.cell? ⟨g, o + j * 4, none⟩ = some (.int .i64 mk) ∧ w'.cell? ⟨g, o + j * 4 + 1, none⟩ = some (.int .i64 mp) ∧ w'.cell? ⟨g, o + j * 4 + 2, none⟩ = some (.string ⟨mt.toArray⟩) ∧ w'.cell? ⟨g, o + j * 4 + 3, none⟩ = some (.slice A' ml.length c') ∧ w'.cell? ⟨g2, o2 + j * 4, none⟩ = some (.int .i64 nk) ∧ w'.cell? ⟨g2, o2 + j * 4 + 1, none⟩ = some (.int .i64 np) ∧ w'.cell? ⟨g2, o2 + j * 4 + 2, none⟩ = some (.string ⟨nt.toArray⟩) ∧ w'.cell? ⟨g2, o2 + j * 4 + 3, none⟩ = some (.slice B' nl.length d')) (by kernel_rfl) ?_ (fun hHeld0 => ?_)
          · first | assumption | go_keep
          refine wpAnyH_take (i := 0) (oi := { dst := some 19, op := Go.Op.move (Go.Operand.tmp 0), type := 27, pos := "ref.go:164", after := #[], guard := none }) (v := ?v_7_0) rfl (by kernel_rfl) (by kernel_rfl) (by kernel_rfl) (fun _ _ _ h => h) (Or.inl ⟨by rfl, ?hy_7_0⟩) (by assumption) ?rest_7_0
          case hy_7_0 => (intro w hSw; (try dsimp only at hSw); go_simp; (try (with_reducible rfl)))
          (try simp only [Act.put, List.setIfInBounds_toArray, List.set_cons_succ, List.set_cons_zero])
          refine wpAnyH_take (i := 1) (oi := { dst := some 20, op := Go.Op.move (Go.Operand.tmp 7), type := 3, pos := "ref.go:164", after := #[], guard := none }) (v := ?v_7_1) rfl (by kernel_rfl) (by kernel_rfl) (by kernel_rfl) (fun _ _ _ h => h) (Or.inl ⟨by rfl, ?hy_7_1⟩) (by assumption) ?rest_7_1
          case hy_7_1 => (intro w hSw; (try dsimp only at hSw); go_simp; (try (with_reducible rfl)))
          (try simp only [Act.put, List.setIfInBounds_toArray, List.set_cons_succ, List.set_cons_zero])
          refine wpAnyH_take (i := 2) (oi := { dst := some 21, op := Go.Op.indexAddr 27 (Go.Operand.tmp 19) (Go.Operand.tmp 20), type := 0, pos := "ref.go:164", after := #[{ on := 0, ground := Go.Ground.data }, { on := 1, ground := Go.Ground.data }], guard := none }) (v := ?v_7_2) rfl (by kernel_rfl) (by kernel_rfl) (by kernel_rfl) (fun _ _ _ h => h) (Or.inl ⟨by rfl, ?hy_7_2⟩) (by assumption) ?rest_7_2
          case hy_7_2 => (intro w hSw; (try dsimp only at hSw); go_simp; (try (with_reducible rfl)))
          (try simp only [Act.put, List.setIfInBounds_toArray, List.set_cons_succ, List.set_cons_zero])
          refine wpAnyH_take (i := 3) (oi := { dst := some 22, op := Go.Op.fieldAddr 43 (Go.Operand.tmp 21) 0, type := 0, pos := "ref.go:164", after := #[{ on := 2, ground := Go.Ground.data }], guard := none }) (v := ?v_7_3) rfl (by kernel_rfl) (by kernel_rfl) (by kernel_rfl) (fun _ _ _ h => h) (Or.inl ⟨by rfl, ?hy_7_3⟩) (by assumption) ?rest_7_3
          case hy_7_3 => (intro w hSw; (try dsimp only at hSw); go_simp; (try (with_reducible rfl)))
          (try simp only [Act.put, List.setIfInBounds_toArray, List.set_cons_succ, List.set_cons_zero])
          refine wpAnyH_take (i := 4) (oi := { dst := some 23, op := Go.Op.load 3 (Go.Operand.tmp 22), type := 3, pos := "ref.go:164", after := #[{ on := 3, ground := Go.Ground.data }], guard := none }) (v := ?v_7_4) rfl (by kernel_rfl) (by kernel_rfl) (by kernel_rfl) (fun _ _ _ h => h) (Or.inl ⟨by rfl, ?hy_7_4⟩) (by assumption) ?rest_7_4
          case hy_7_4 => (intro w hSw; (try dsimp only at hSw); go_simp; (try (with_reducible rfl)))
          (try simp only [Act.put, List.setIfInBounds_toArray, List.set_cons_succ, List.set_cons_zero])
          refine wpAnyH_take (i := 5) (oi := { dst := some 24, op := Go.Op.move (Go.Operand.tmp 1), type := 27, pos := "ref.go:164", after := #[], guard := none }) (v := ?v_7_5) rfl (by kernel_rfl) (by kernel_rfl) (by kernel_rfl) (fun _ _ _ h => h) (Or.inl ⟨by rfl, ?hy_7_5⟩) (by assumption) ?rest_7_5
          case hy_7_5 => (intro w hSw; (try dsimp only at hSw); go_simp; (try (with_reducible rfl)))
          (try simp only [Act.put, List.setIfInBounds_toArray, List.set_cons_succ, List.set_cons_zero])
          refine wpAnyH_take (i := 6) (oi := { dst := some 25, op := Go.Op.move (Go.Operand.tmp 7), type := 3, pos := "ref.go:164", after := #[], guard := none }) (v := ?v_7_6) rfl (by kernel_rfl) (by kernel_rfl) (by kernel_rfl) (fun _ _ _ h => h) (Or.inl ⟨by rfl, ?hy_7_6⟩) (by assumption) ?rest_7_6
          case hy_7_6 => (intro w hSw; (try dsimp only at hSw); go_simp; (try (with_reducible rfl)))
          (try simp only [Act.put, List.setIfInBounds_toArray, List.set_cons_succ, List.set_cons_zero])
          refine wpAnyH_take (i := 7) (oi := { dst := some 26, op := Go.Op.indexAddr 27 (Go.Operand.tmp 24) (Go.Operand.tmp 25), type := 0, pos := "ref.go:164", after := #[{ on := 5, ground := Go.Ground.data }, { on := 6, ground := Go.Ground.data }], guard := none }) (v := ?v_7_7) rfl (by kernel_rfl) (by kernel_rfl) (by kernel_rfl) (fun _ _ _ h => h) (Or.inl ⟨by rfl, ?hy_7_7⟩) (by assumption) ?rest_7_7
          case hy_7_7 => (intro w hSw; (try dsimp only at hSw); go_simp; (try (with_reducible rfl)))
          (try simp only [Act.put, List.setIfInBounds_toArray, List.set_cons_succ, List.set_cons_zero])
          refine wpAnyH_take (i := 8) (oi := { dst := some 27, op := Go.Op.fieldAddr 43 (Go.Operand.tmp 26) 0, type := 0, pos := "ref.go:164", after := #[{ on := 7, ground := Go.Ground.data }], guard := none }) (v := ?v_7_8) rfl (by kernel_rfl) (by kernel_rfl) (by kernel_rfl) (fun _ _ _ h => h) (Or.inl ⟨by rfl, ?hy_7_8⟩) (by assumption) ?rest_7_8
          case hy_7_8 => (intro w hSw; (try dsimp only at hSw); go_simp; (try (with_reducible rfl)))
          (try simp only [Act.put, List.setIfInBounds_toArray, List.set_cons_succ, List.set_cons_zero])
          refine wpAnyH_take (i := 9) (oi := { dst := some 28, op := Go.Op.load 3 (Go.Operand.tmp 27), type := 3, pos := "ref.go:164", after := #[{ on := 8, ground := Go.Ground.data }], guard := none }) (v := ?v_7_9) rfl (by kernel_rfl) (by kernel_rfl) (by kernel_rfl) (fun _ _ _ h => h) (Or.inl ⟨by rfl, ?hy_7_9⟩) (by assumption) ?rest_7_9
          case hy_7_9 => (intro w hSw; (try dsimp only at hSw); go_simp; (try (with_reducible rfl)))
          (try simp only [Act.put, List.setIfInBounds_toArray, List.set_cons_succ, List.set_cons_zero])
          refine wpAnyH_take (i := 10) (oi := { dst := some 29, op := Go.Op.binOp Go.BinOp.neq 3 (Go.Operand.tmp 23) (Go.Operand.tmp 28) 3, type := 4, pos := "ref.go:164", after := #[{ on := 4, ground := Go.Ground.data }, { on := 9, ground := Go.Ground.data }], guard := none }) (v := ?v_7_10) rfl (by kernel_rfl) (by kernel_rfl) (by kernel_rfl) (fun _ _ _ h => h) (Or.inl ⟨by rfl, ?hy_7_10⟩) (by assumption) ?rest_7_10
          case hy_7_10 => (intro w hSw; (try dsimp only at hSw); go_simp; (try (with_reducible rfl)))
          (try simp only [Act.put, List.setIfInBounds_toArray, List.set_cons_succ, List.set_cons_zero])
          refine wpAnyH_take (i := 11) (oi := { dst := some 30, op := Go.Op.move (Go.Operand.tmp 29), type := 4, pos := "ref.go:164", after := #[{ on := 10, ground := Go.Ground.data }], guard := none }) (v := ?v_7_11) rfl (by kernel_rfl) (by kernel_rfl) (by kernel_rfl) (fun _ _ _ h => h) (Or.inl ⟨by rfl, ?hy_7_11⟩) (by assumption) ?rest_7_11
          case hy_7_11 => (intro w hSw; (try dsimp only at hSw); go_simp; (try (with_reducible rfl)))
          (try simp only [Act.put, List.setIfInBounds_toArray, List.set_cons_succ, List.set_cons_zero])
          refine wpAnyH_take (i := 12) (oi := { dst := some 31, op := Go.Op.move (Go.Operand.tmp 0), type := 27, pos := "ref.go:164", after := #[{ on := 11, ground := Go.Ground.guard }], guard := some (11, false) }) (v := ?v_7_12) rfl (by kernel_rfl) (by kernel_rfl) (by kernel_rfl) (fun _ _ _ h => h) (Or.inl ⟨by rfl, ?hy_7_12⟩) (by assumption) ?rest_7_12
          case hy_7_12 => (intro w hSw; (try dsimp only at hSw); go_simp; (try (with_reducible rfl)))
          (try simp only [Act.put, List.setIfInBounds_toArray, List.set_cons_succ, List.set_cons_zero])
          refine wpAnyH_take (i := 13) (oi := { dst := some 32, op := Go.Op.move (Go.Operand.tmp 7), type := 3, pos := "ref.go:164", after := #[{ on := 11, ground := Go.Ground.guard }], guard := some (11, false) }) (v := ?v_7_13) rfl (by kernel_rfl) (by kernel_rfl) (by kernel_rfl) (fun _ _ _ h => h) (Or.inl ⟨by rfl, ?hy_7_13⟩) (by assumption) ?rest_7_13
          case hy_7_13 => (intro w hSw; (try dsimp only at hSw); go_simp; (try (with_reducible rfl)))
          (try simp only [Act.put, List.setIfInBounds_toArray, List.set_cons_succ, List.set_cons_zero])
          refine wpAnyH_take (i := 14) (oi := { dst := some 33, op := Go.Op.indexAddr 27 (Go.Operand.tmp 31) (Go.Operand.tmp 32), type := 0, pos := "ref.go:164", after := #[{ on := 12, ground := Go.Ground.data }, { on := 13, ground := Go.Ground.data }, { on := 11, ground := Go.Ground.guard }], guard := some (11, false) }) (v := ?v_7_14) rfl (by kernel_rfl) (by kernel_rfl) (by kernel_rfl) (fun _ _ _ h => h) (Or.inl ⟨by rfl, ?hy_7_14⟩) (by assumption) ?rest_7_14
          case hy_7_14 => (intro w hSw; (try dsimp only at hSw); go_simp; (try (with_reducible rfl)))
          (try simp only [Act.put, List.setIfInBounds_toArray, List.set_cons_succ, List.set_cons_zero])
          refine wpAnyH_take (i := 15) (oi := { dst := some 34, op := Go.Op.fieldAddr 43 (Go.Operand.tmp 33) 2, type := 0, pos := "ref.go:164", after := #[{ on := 14, ground := Go.Ground.data }, { on := 11, ground := Go.Ground.guard }], guard := some (11, false) }) (v := ?v_7_15) rfl (by kernel_rfl) (by kernel_rfl) (by kernel_rfl) (fun _ _ _ h => h) (Or.inl ⟨by rfl, ?hy_7_15⟩) (by assumption) ?rest_7_15
          case hy_7_15 => (intro w hSw; (try dsimp only at hSw); go_simp; (try (with_reducible rfl)))
          (try simp only [Act.put, List.setIfInBounds_toArray, List.set_cons_succ, List.set_cons_zero])
          refine wpAnyH_take (i := 16) (oi := { dst := some 35, op := Go.Op.load 9 (Go.Operand.tmp 34), type := 9, pos := "ref.go:164", after := #[{ on := 15, ground := Go.Ground.data }, { on := 11, ground := Go.Ground.guard }], guard := some (11, false) }) (v := ?v_7_16) rfl (by kernel_rfl) (by kernel_rfl) (by kernel_rfl) (fun _ _ _ h => h) (Or.inl ⟨by rfl, ?hy_7_16⟩) (by assumption) ?rest_7_16
          case hy_7_16 => (intro w hSw; (try dsimp only at hSw); go_simp; (try (with_reducible rfl)))
          (try simp only [Act.put, List.setIfInBounds_toArray, List.set_cons_succ, List.set_cons_zero])
          refine wpAnyH_take (i := 17) (oi := { dst := some 36, op := Go.Op.move (Go.Operand.tmp 1), type := 27, pos := "ref.go:164", after := #[{ on := 11, ground := Go.Ground.guard }], guard := some (11, false) }) (v := ?v_7_17) rfl (by kernel_rfl) (by kernel_rfl) (by kernel_rfl) (fun _ _ _ h => h) (Or.inl ⟨by rfl, ?hy_7_17⟩) (by assumption) ?rest_7_17
          case hy_7_17 => (intro w hSw; (try dsimp only at hSw); go_simp; (try (with_reducible rfl)))
          (try simp only [Act.put, List.setIfInBounds_toArray, List.set_cons_succ, List.set_cons_zero])
          refine wpAnyH_take (i := 18) (oi := { dst := some 37, op := Go.Op.move (Go.Operand.tmp 7), type := 3, pos := "ref.go:164", after := #[{ on := 11, ground := Go.Ground.guard }], guard := some (11, false) }) (v := ?v_7_18) rfl (by kernel_rfl) (by kernel_rfl) (by kernel_rfl) (fun _ _ _ h => h) (Or.inl ⟨by rfl, ?hy_7_18⟩) (by assumption) ?rest_7_18
          case hy_7_18 => (intro w hSw; (try dsimp only at hSw); go_simp; (try (with_reducible rfl)))
          (try simp only [Act.put, List.setIfInBounds_toArray, List.set_cons_succ, List.set_cons_zero])
          refine wpAnyH_take (i := 19) (oi := { dst := some 38, op := Go.Op.indexAddr 27 (Go.Operand.tmp 36) (Go.Operand.tmp 37), type := 0, pos := "ref.go:164", after := #[{ on := 17, ground := Go.Ground.data }, { on := 18, ground := Go.Ground.data }, { on := 11, ground := Go.Ground.guard }], guard := some (11, false) }) (v := ?v_7_19) rfl (by kernel_rfl) (by kernel_rfl) (by kernel_rfl) (fun _ _ _ h => h) (Or.inl ⟨by rfl, ?hy_7_19⟩) (by assumption) ?rest_7_19
          case hy_7_19 => (intro w hSw; (try dsimp only at hSw); go_simp; (try (with_reducible rfl)))
          (try simp only [Act.put, List.setIfInBounds_toArray, List.set_cons_succ, List.set_cons_zero])
          refine wpAnyH_take (i := 20) (oi := { dst := some 39, op := Go.Op.fieldAddr 43 (Go.Operand.tmp 38) 2, type := 0, pos := "ref.go:164", after := #[{ on := 19, ground := Go.Ground.data }, { on := 11, ground := Go.Ground.guard }], guard := some (11, false) }) (v := ?v_7_20) rfl (by kernel_rfl) (by kernel_rfl) (by kernel_rfl) (fun _ _ _ h => h) (Or.inl ⟨by rfl, ?hy_7_20⟩) (by assumption) ?rest_7_20
          case hy_7_20 => (intro w hSw; (try dsimp only at hSw); go_simp; (try (with_reducible rfl)))
          (try simp only [Act.put, List.setIfInBounds_toArray, List.set_cons_succ, List.set_cons_zero])
          refine wpAnyH_take (i := 21) (oi := { dst := some 40, op := Go.Op.load 9 (Go.Operand.tmp 39), type := 9, pos := "ref.go:164", after := #[{ on := 20, ground := Go.Ground.data }, { on := 11, ground := Go.Ground.guard }], guard := some (11, false) }) (v := ?v_7_21) rfl (by kernel_rfl) (by kernel_rfl) (by kernel_rfl) (fun _ _ _ h => h) (Or.inl ⟨by rfl, ?hy_7_21⟩) (by assumption) ?rest_7_21
          case hy_7_21 => (intro w hSw; (try dsimp only at hSw); go_simp; (try (with_reducible rfl)))
          (try simp only [Act.put, List.setIfInBounds_toArray, List.set_cons_succ, List.set_cons_zero])
          refine wpAnyH_take (i := 22) (oi := { dst := some 41, op := Go.Op.binOp Go.BinOp.neq 9 (Go.Operand.tmp 35) (Go.Operand.tmp 40) 9, type := 4, pos := "ref.go:164", after := #[{ on := 16, ground := Go.Ground.data }, { on := 21, ground := Go.Ground.data }, { on := 11, ground := Go.Ground.guard }], guard := some (11, false) }) (v := ?v_7_22) rfl (by kernel_rfl) (by kernel_rfl) (by kernel_rfl) (fun _ _ _ h => h) (Or.inl ⟨by rfl, ?hy_7_22⟩) (by assumption) ?rest_7_22
          case hy_7_22 => (intro w hSw; (try dsimp only at hSw); go_simp; (try (with_reducible rfl)))
          (try simp only [Act.put, List.setIfInBounds_toArray, List.set_cons_succ, List.set_cons_zero])
          refine wpAnyH_take (i := 23) (oi := { dst := some 42, op := Go.Op.pick (Go.Operand.tmp 30) (Go.Operand.const (Go.Value.bool true)) (Go.Operand.tmp 41), type := 4, pos := "ref.go:164", after := #[{ on := 11, ground := Go.Ground.data }, { on := 22, ground := Go.Ground.data }], guard := none }) (v := ?v_7_23) rfl (by kernel_rfl) (by kernel_rfl) (by kernel_rfl) (fun _ _ _ h => h) (Or.inl ⟨by rfl, ?hy_7_23⟩) (by assumption) ?rest_7_23
          case hy_7_23 => (intro w hSw; (try dsimp only at hSw); go_simp; (try (with_reducible rfl)))
          (try simp only [Act.put, List.setIfInBounds_toArray, List.set_cons_succ, List.set_cons_zero])
          refine wpAnyH_take (i := 24) (oi := { dst := some 43, op := Go.Op.move (Go.Operand.tmp 42), type := 4, pos := "ref.go:164", after := #[{ on := 23, ground := Go.Ground.data }, { on := 11, ground := Go.Ground.chain }], guard := none }) (v := ?v_7_24) rfl (by kernel_rfl) (by kernel_rfl) (by kernel_rfl) (fun _ _ _ h => h) (Or.inl ⟨by rfl, ?hy_7_24⟩) (by assumption) ?rest_7_24
          case hy_7_24 => (intro w hSw; (try dsimp only at hSw); go_simp; (try (with_reducible rfl)))
          (try simp only [Act.put, List.setIfInBounds_toArray, List.set_cons_succ, List.set_cons_zero])
          refine wpAnyH_take (i := 25) (oi := { dst := some 44, op := Go.Op.move (Go.Operand.tmp 2), type := 4, pos := "ref.go:164", after := #[{ on := 24, ground := Go.Ground.guard }], guard := some (24, false) }) (v := ?v_7_25) rfl (by kernel_rfl) (by kernel_rfl) (by kernel_rfl) (fun _ _ _ h => h) (Or.inl ⟨by rfl, ?hy_7_25⟩) (by assumption) ?rest_7_25
          case hy_7_25 => (intro w hSw; (try dsimp only at hSw); go_simp; (try (with_reducible rfl)))
          (try simp only [Act.put, List.setIfInBounds_toArray, List.set_cons_succ, List.set_cons_zero])
          refine wpAnyH_take (i := 26) (oi := { dst := some 45, op := Go.Op.move (Go.Operand.tmp 44), type := 4, pos := "ref.go:164", after := #[{ on := 25, ground := Go.Ground.data }, { on := 24, ground := Go.Ground.chain }, { on := 24, ground := Go.Ground.guard }], guard := some (24, false) }) (v := ?v_7_26) rfl (by kernel_rfl) (by kernel_rfl) (by kernel_rfl) (fun _ _ _ h => h) (Or.inl ⟨by rfl, ?hy_7_26⟩) (by assumption) ?rest_7_26
          case hy_7_26 => (intro w hSw; (try dsimp only at hSw); go_simp; (try (with_reducible rfl)))
          (try simp only [Act.put, List.setIfInBounds_toArray, List.set_cons_succ, List.set_cons_zero])
          refine wpAnyH_take (i := 27) (oi := { dst := some 46, op := Go.Op.move (Go.Operand.tmp 0), type := 27, pos := "ref.go:164", after := #[{ on := 26, ground := Go.Ground.guard }], guard := some (26, true) }) (v := ?v_7_27) rfl (by kernel_rfl) (by kernel_rfl) (by kernel_rfl) (fun _ _ _ h => h) (Or.inl ⟨by rfl, ?hy_7_27⟩) (by assumption) ?rest_7_27
          case hy_7_27 => (intro w hSw; (try dsimp only at hSw); go_simp; (try (with_reducible rfl)))
          (try simp only [Act.put, List.setIfInBounds_toArray, List.set_cons_succ, List.set_cons_zero])
          refine wpAnyH_take (i := 28) (oi := { dst := some 47, op := Go.Op.move (Go.Operand.tmp 7), type := 3, pos := "ref.go:164", after := #[{ on := 26, ground := Go.Ground.guard }], guard := some (26, true) }) (v := ?v_7_28) rfl (by kernel_rfl) (by kernel_rfl) (by kernel_rfl) (fun _ _ _ h => h) (Or.inl ⟨by rfl, ?hy_7_28⟩) (by assumption) ?rest_7_28
          case hy_7_28 => (intro w hSw; (try dsimp only at hSw); go_simp; (try (with_reducible rfl)))
          (try simp only [Act.put, List.setIfInBounds_toArray, List.set_cons_succ, List.set_cons_zero])
          refine wpAnyH_take (i := 29) (oi := { dst := some 48, op := Go.Op.indexAddr 27 (Go.Operand.tmp 46) (Go.Operand.tmp 47), type := 0, pos := "ref.go:164", after := #[{ on := 27, ground := Go.Ground.data }, { on := 28, ground := Go.Ground.data }, { on := 26, ground := Go.Ground.guard }], guard := some (26, true) }) (v := ?v_7_29) rfl (by kernel_rfl) (by kernel_rfl) (by kernel_rfl) (fun _ _ _ h => h) (Or.inl ⟨by rfl, ?hy_7_29⟩) (by assumption) ?rest_7_29
          case hy_7_29 => (intro w hSw; (try dsimp only at hSw); go_simp; (try (with_reducible rfl)))
          (try simp only [Act.put, List.setIfInBounds_toArray, List.set_cons_succ, List.set_cons_zero])
          refine wpAnyH_take (i := 30) (oi := { dst := some 49, op := Go.Op.fieldAddr 43 (Go.Operand.tmp 48) 1, type := 0, pos := "ref.go:164", after := #[{ on := 29, ground := Go.Ground.data }, { on := 26, ground := Go.Ground.guard }], guard := some (26, true) }) (v := ?v_7_30) rfl (by kernel_rfl) (by kernel_rfl) (by kernel_rfl) (fun _ _ _ h => h) (Or.inl ⟨by rfl, ?hy_7_30⟩) (by assumption) ?rest_7_30
          case hy_7_30 => (intro w hSw; (try dsimp only at hSw); go_simp; (try (with_reducible rfl)))
          (try simp only [Act.put, List.setIfInBounds_toArray, List.set_cons_succ, List.set_cons_zero])
          refine wpAnyH_take (i := 31) (oi := { dst := some 50, op := Go.Op.load 3 (Go.Operand.tmp 49), type := 3, pos := "ref.go:164", after := #[{ on := 30, ground := Go.Ground.data }, { on := 26, ground := Go.Ground.guard }], guard := some (26, true) }) (v := ?v_7_31) rfl (by kernel_rfl) (by kernel_rfl) (by kernel_rfl) (fun _ _ _ h => h) (Or.inl ⟨by rfl, ?hy_7_31⟩) (by assumption) ?rest_7_31
          case hy_7_31 => (intro w hSw; (try dsimp only at hSw); go_simp; (try (with_reducible rfl)))
          (try simp only [Act.put, List.setIfInBounds_toArray, List.set_cons_succ, List.set_cons_zero])
          refine wpAnyH_take (i := 32) (oi := { dst := some 51, op := Go.Op.move (Go.Operand.tmp 1), type := 27, pos := "ref.go:164", after := #[{ on := 26, ground := Go.Ground.guard }], guard := some (26, true) }) (v := ?v_7_32) rfl (by kernel_rfl) (by kernel_rfl) (by kernel_rfl) (fun _ _ _ h => h) (Or.inl ⟨by rfl, ?hy_7_32⟩) (by assumption) ?rest_7_32
          case hy_7_32 => (intro w hSw; (try dsimp only at hSw); go_simp; (try (with_reducible rfl)))
          (try simp only [Act.put, List.setIfInBounds_toArray, List.set_cons_succ, List.set_cons_zero])
          refine wpAnyH_take (i := 33) (oi := { dst := some 52, op := Go.Op.move (Go.Operand.tmp 7), type := 3, pos := "ref.go:164", after := #[{ on := 26, ground := Go.Ground.guard }], guard := some (26, true) }) (v := ?v_7_33) rfl (by kernel_rfl) (by kernel_rfl) (by kernel_rfl) (fun _ _ _ h => h) (Or.inl ⟨by rfl, ?hy_7_33⟩) (by assumption) ?rest_7_33
          case hy_7_33 => (intro w hSw; (try dsimp only at hSw); go_simp; (try (with_reducible rfl)))
          (try simp only [Act.put, List.setIfInBounds_toArray, List.set_cons_succ, List.set_cons_zero])
          refine wpAnyH_take (i := 34) (oi := { dst := some 53, op := Go.Op.indexAddr 27 (Go.Operand.tmp 51) (Go.Operand.tmp 52), type := 0, pos := "ref.go:164", after := #[{ on := 32, ground := Go.Ground.data }, { on := 33, ground := Go.Ground.data }, { on := 26, ground := Go.Ground.guard }], guard := some (26, true) }) (v := ?v_7_34) rfl (by kernel_rfl) (by kernel_rfl) (by kernel_rfl) (fun _ _ _ h => h) (Or.inl ⟨by rfl, ?hy_7_34⟩) (by assumption) ?rest_7_34
          case hy_7_34 => (intro w hSw; (try dsimp only at hSw); go_simp; (try (with_reducible rfl)))
          (try simp only [Act.put, List.setIfInBounds_toArray, List.set_cons_succ, List.set_cons_zero])
          refine wpAnyH_take (i := 35) (oi := { dst := some 54, op := Go.Op.fieldAddr 43 (Go.Operand.tmp 53) 1, type := 0, pos := "ref.go:164", after := #[{ on := 34, ground := Go.Ground.data }, { on := 26, ground := Go.Ground.guard }], guard := some (26, true) }) (v := ?v_7_35) rfl (by kernel_rfl) (by kernel_rfl) (by kernel_rfl) (fun _ _ _ h => h) (Or.inl ⟨by rfl, ?hy_7_35⟩) (by assumption) ?rest_7_35
          case hy_7_35 => (intro w hSw; (try dsimp only at hSw); go_simp; (try (with_reducible rfl)))
          (try simp only [Act.put, List.setIfInBounds_toArray, List.set_cons_succ, List.set_cons_zero])
          refine wpAnyH_take (i := 36) (oi := { dst := some 55, op := Go.Op.load 3 (Go.Operand.tmp 54), type := 3, pos := "ref.go:164", after := #[{ on := 35, ground := Go.Ground.data }, { on := 26, ground := Go.Ground.guard }], guard := some (26, true) }) (v := ?v_7_36) rfl (by kernel_rfl) (by kernel_rfl) (by kernel_rfl) (fun _ _ _ h => h) (Or.inl ⟨by rfl, ?hy_7_36⟩) (by assumption) ?rest_7_36
          case hy_7_36 => (intro w hSw; (try dsimp only at hSw); go_simp; (try (with_reducible rfl)))
          (try simp only [Act.put, List.setIfInBounds_toArray, List.set_cons_succ, List.set_cons_zero])
          refine wpAnyH_take (i := 37) (oi := { dst := some 56, op := Go.Op.binOp Go.BinOp.neq 3 (Go.Operand.tmp 50) (Go.Operand.tmp 55) 3, type := 4, pos := "ref.go:164", after := #[{ on := 31, ground := Go.Ground.data }, { on := 36, ground := Go.Ground.data }, { on := 26, ground := Go.Ground.guard }], guard := some (26, true) }) (v := ?v_7_37) rfl (by kernel_rfl) (by kernel_rfl) (by kernel_rfl) (fun _ _ _ h => h) (Or.inl ⟨by rfl, ?hy_7_37⟩) (by assumption) ?rest_7_37
          case hy_7_37 => (intro w hSw; (try dsimp only at hSw); go_simp; (try (with_reducible rfl)))
          (try simp only [Act.put, List.setIfInBounds_toArray, List.set_cons_succ, List.set_cons_zero])
          refine wpAnyH_take (i := 38) (oi := { dst := some 57, op := Go.Op.pick (Go.Operand.tmp 45) (Go.Operand.tmp 56) (Go.Operand.const (Go.Value.bool false)), type := 4, pos := "ref.go:164", after := #[{ on := 26, ground := Go.Ground.data }, { on := 37, ground := Go.Ground.data }, { on := 24, ground := Go.Ground.guard }], guard := some (24, false) }) (v := ?v_7_38) rfl (by kernel_rfl) (by kernel_rfl) (by kernel_rfl) (fun _ _ _ h => h) (Or.inl ⟨by rfl, ?hy_7_38⟩) (by assumption) ?rest_7_38
          case hy_7_38 => (intro w hSw; (try dsimp only at hSw); go_simp; (try (with_reducible rfl)))
          (try simp only [Act.put, List.setIfInBounds_toArray, List.set_cons_succ, List.set_cons_zero])
          refine wpAnyH_take (i := 39) (oi := { dst := some 58, op := Go.Op.pick (Go.Operand.tmp 43) (Go.Operand.const (Go.Value.bool true)) (Go.Operand.tmp 57), type := 4, pos := "ref.go:164", after := #[{ on := 24, ground := Go.Ground.data }, { on := 38, ground := Go.Ground.data }], guard := none }) (v := ?v_7_39) rfl (by kernel_rfl) (by kernel_rfl) (by kernel_rfl) (fun _ _ _ h => h) (Or.inl ⟨by rfl, ?hy_7_39⟩) (by assumption) ?rest_7_39
          case hy_7_39 => (intro w hSw; (try dsimp only at hSw); go_simp; (try (with_reducible rfl)))
          (try simp only [Act.put, List.setIfInBounds_toArray, List.set_cons_succ, List.set_cons_zero])
          refine wpAnyH_take (i := 40) (oi := { dst := some 59, op := Go.Op.move (Go.Operand.tmp 58), type := 4, pos := "ref.go:164", after := #[{ on := 39, ground := Go.Ground.data }, { on := 26, ground := Go.Ground.chain }], guard := none }) (v := ?v_7_40) rfl (by kernel_rfl) (by kernel_rfl) (by kernel_rfl) (fun _ _ _ h => h) (Or.inl ⟨by rfl, ?hy_7_40⟩) (by assumption) ?rest_7_40
          case hy_7_40 => (intro w hSw; (try dsimp only at hSw); go_simp; (try (with_reducible rfl)))
          (try simp only [Act.put, List.setIfInBounds_toArray, List.set_cons_succ, List.set_cons_zero])
          refine wpAnyH_take (i := 41) (oi := { dst := some 60, op := Go.Op.move (Go.Operand.tmp 0), type := 27, pos := "ref.go:164", after := #[{ on := 40, ground := Go.Ground.guard }], guard := some (40, false) }) (v := ?v_7_41) rfl (by kernel_rfl) (by kernel_rfl) (by kernel_rfl) (fun _ _ _ h => h) (Or.inl ⟨by rfl, ?hy_7_41⟩) (by assumption) ?rest_7_41
          case hy_7_41 => (intro w hSw; (try dsimp only at hSw); go_simp; (try (with_reducible rfl)))
          (try simp only [Act.put, List.setIfInBounds_toArray, List.set_cons_succ, List.set_cons_zero])
          refine wpAnyH_take (i := 42) (oi := { dst := some 61, op := Go.Op.move (Go.Operand.tmp 7), type := 3, pos := "ref.go:164", after := #[{ on := 40, ground := Go.Ground.guard }], guard := some (40, false) }) (v := ?v_7_42) rfl (by kernel_rfl) (by kernel_rfl) (by kernel_rfl) (fun _ _ _ h => h) (Or.inl ⟨by rfl, ?hy_7_42⟩) (by assumption) ?rest_7_42
          case hy_7_42 => (intro w hSw; (try dsimp only at hSw); go_simp; (try (with_reducible rfl)))
          (try simp only [Act.put, List.setIfInBounds_toArray, List.set_cons_succ, List.set_cons_zero])
          refine wpAnyH_take (i := 43) (oi := { dst := some 62, op := Go.Op.indexAddr 27 (Go.Operand.tmp 60) (Go.Operand.tmp 61), type := 0, pos := "ref.go:164", after := #[{ on := 41, ground := Go.Ground.data }, { on := 42, ground := Go.Ground.data }, { on := 40, ground := Go.Ground.guard }], guard := some (40, false) }) (v := ?v_7_43) rfl (by kernel_rfl) (by kernel_rfl) (by kernel_rfl) (fun _ _ _ h => h) (Or.inl ⟨by rfl, ?hy_7_43⟩) (by assumption) ?rest_7_43
          case hy_7_43 => (intro w hSw; (try dsimp only at hSw); go_simp; (try (with_reducible rfl)))
          (try simp only [Act.put, List.setIfInBounds_toArray, List.set_cons_succ, List.set_cons_zero])
          refine wpAnyH_take (i := 44) (oi := { dst := some 63, op := Go.Op.fieldAddr 43 (Go.Operand.tmp 62) 3, type := 0, pos := "ref.go:164", after := #[{ on := 43, ground := Go.Ground.data }, { on := 40, ground := Go.Ground.guard }], guard := some (40, false) }) (v := ?v_7_44) rfl (by kernel_rfl) (by kernel_rfl) (by kernel_rfl) (fun _ _ _ h => h) (Or.inl ⟨by rfl, ?hy_7_44⟩) (by assumption) ?rest_7_44
          case hy_7_44 => (intro w hSw; (try dsimp only at hSw); go_simp; (try (with_reducible rfl)))
          (try simp only [Act.put, List.setIfInBounds_toArray, List.set_cons_succ, List.set_cons_zero])
          refine wpAnyH_take (i := 45) (oi := { dst := some 64, op := Go.Op.load 27 (Go.Operand.tmp 63), type := 27, pos := "ref.go:164", after := #[{ on := 44, ground := Go.Ground.data }, { on := 40, ground := Go.Ground.guard }], guard := some (40, false) }) (v := ?v_7_45) rfl (by kernel_rfl) (by kernel_rfl) (by kernel_rfl) (fun _ _ _ h => h) (Or.inl ⟨by rfl, ?hy_7_45⟩) (by assumption) ?rest_7_45
          case hy_7_45 => (intro w hSw; (try dsimp only at hSw); go_simp; (try (with_reducible rfl)))
          (try simp only [Act.put, List.setIfInBounds_toArray, List.set_cons_succ, List.set_cons_zero])
          refine wpAnyH_take (i := 46) (oi := { dst := some 65, op := Go.Op.move (Go.Operand.tmp 1), type := 27, pos := "ref.go:164", after := #[{ on := 40, ground := Go.Ground.guard }], guard := some (40, false) }) (v := ?v_7_46) rfl (by kernel_rfl) (by kernel_rfl) (by kernel_rfl) (fun _ _ _ h => h) (Or.inl ⟨by rfl, ?hy_7_46⟩) (by assumption) ?rest_7_46
          case hy_7_46 => (intro w hSw; (try dsimp only at hSw); go_simp; (try (with_reducible rfl)))
          (try simp only [Act.put, List.setIfInBounds_toArray, List.set_cons_succ, List.set_cons_zero])
          refine wpAnyH_take (i := 47) (oi := { dst := some 66, op := Go.Op.move (Go.Operand.tmp 7), type := 3, pos := "ref.go:164", after := #[{ on := 40, ground := Go.Ground.guard }], guard := some (40, false) }) (v := ?v_7_47) rfl (by kernel_rfl) (by kernel_rfl) (by kernel_rfl) (fun _ _ _ h => h) (Or.inl ⟨by rfl, ?hy_7_47⟩) (by assumption) ?rest_7_47
          case hy_7_47 => (intro w hSw; (try dsimp only at hSw); go_simp; (try (with_reducible rfl)))
          (try simp only [Act.put, List.setIfInBounds_toArray, List.set_cons_succ, List.set_cons_zero])
          refine wpAnyH_take (i := 48) (oi := { dst := some 67, op := Go.Op.indexAddr 27 (Go.Operand.tmp 65) (Go.Operand.tmp 66), type := 0, pos := "ref.go:164", after := #[{ on := 46, ground := Go.Ground.data }, { on := 47, ground := Go.Ground.data }, { on := 40, ground := Go.Ground.guard }], guard := some (40, false) }) (v := ?v_7_48) rfl (by kernel_rfl) (by kernel_rfl) (by kernel_rfl) (fun _ _ _ h => h) (Or.inl ⟨by rfl, ?hy_7_48⟩) (by assumption) ?rest_7_48
          case hy_7_48 => (intro w hSw; (try dsimp only at hSw); go_simp; (try (with_reducible rfl)))
          (try simp only [Act.put, List.setIfInBounds_toArray, List.set_cons_succ, List.set_cons_zero])
          refine wpAnyH_take (i := 49) (oi := { dst := some 68, op := Go.Op.fieldAddr 43 (Go.Operand.tmp 67) 3, type := 0, pos := "ref.go:164", after := #[{ on := 48, ground := Go.Ground.data }, { on := 40, ground := Go.Ground.guard }], guard := some (40, false) }) (v := ?v_7_49) rfl (by kernel_rfl) (by kernel_rfl) (by kernel_rfl) (fun _ _ _ h => h) (Or.inl ⟨by rfl, ?hy_7_49⟩) (by assumption) ?rest_7_49
          case hy_7_49 => (intro w hSw; (try dsimp only at hSw); go_simp; (try (with_reducible rfl)))
          (try simp only [Act.put, List.setIfInBounds_toArray, List.set_cons_succ, List.set_cons_zero])
          refine wpAnyH_take (i := 50) (oi := { dst := some 69, op := Go.Op.load 27 (Go.Operand.tmp 68), type := 27, pos := "ref.go:164", after := #[{ on := 49, ground := Go.Ground.data }, { on := 40, ground := Go.Ground.guard }], guard := some (40, false) }) (v := ?v_7_50) rfl (by kernel_rfl) (by kernel_rfl) (by kernel_rfl) (fun _ _ _ h => h) (Or.inl ⟨by rfl, ?hy_7_50⟩) (by assumption) ?rest_7_50
          case hy_7_50 => (intro w hSw; (try dsimp only at hSw); go_simp; (try (with_reducible rfl)))
          (try simp only [Act.put, List.setIfInBounds_toArray, List.set_cons_succ, List.set_cons_zero])
          refine wpAnyH_take (i := 51) (oi := { dst := some 70, op := Go.Op.move (Go.Operand.tmp 2), type := 4, pos := "ref.go:164", after := #[{ on := 40, ground := Go.Ground.guard }], guard := some (40, false) }) (v := ?v_7_51) rfl (by kernel_rfl) (by kernel_rfl) (by kernel_rfl) (fun _ _ _ h => h) (Or.inl ⟨by rfl, ?hy_7_51⟩) (by assumption) ?rest_7_51
          case hy_7_51 => (intro w hSw; (try dsimp only at hSw); go_simp; (try (with_reducible rfl)))
          (try simp only [Act.put, List.setIfInBounds_toArray, List.set_cons_succ, List.set_cons_zero])
          refine wpAnyH_ready (rs := [52]) (by kernel_rfl) (by simp) ?_
          refine AllReadyH.cons (o := { dst := some 71, op := Go.Op.call { callee := Go.Callee.value (Go.Operand.func 11), args := #[Go.Operand.tmp 64, Go.Operand.tmp 69, Go.Operand.tmp 70], argTypes := #[27, 27, 4] }, type := 4, pos := "ref.go:164", after := #[{ on := 45, ground := Go.Ground.data }, { on := 50, ground := Go.Ground.data }, { on := 51, ground := Go.Ground.data }, { on := 40, ground := Go.Ground.chain }, { on := 40, ground := Go.Ground.guard }], guard := some (40, false) }) rfl (fun K hK => ?_) AllReadyH.nil
          go_simp
          (go_at_call 11; refine (HC.out.mono ?_); rintro e w2 ⟨rfl, hb2⟩; have y0 := (hb2.cell (p := ⟨g, o + j * 4, none⟩) (show g < wr.drew.heap.size from hgl2)).trans d0; have y1 := (hb2.cell (p := ⟨g, o + j * 4 + 1, none⟩) (show g < wr.drew.heap.size from hgl2)).trans d1; have y2 := (hb2.cell (p := ⟨g, o + j * 4 + 2, none⟩) (show g < wr.drew.heap.size from hgl2)).trans d2; have y3 := (hb2.cell (p := ⟨g, o + j * 4 + 3, none⟩) (show g < wr.drew.heap.size from hgl2)).trans d3; have z0 := (hb2.cell (p := ⟨g2, o2 + j * 4, none⟩) (show g2 < wr.drew.heap.size from hhl2)).trans e0; have z1 := (hb2.cell (p := ⟨g2, o2 + j * 4 + 1, none⟩) (show g2 < wr.drew.heap.size from hhl2)).trans e1; have z2 := (hb2.cell (p := ⟨g2, o2 + j * 4 + 2, none⟩) (show g2 < wr.drew.heap.size from hhl2)).trans e2; have z3 := (hb2.cell (p := ⟨g2, o2 + j * 4 + 3, none⟩) (show g2 < wr.drew.heap.size from hhl2)).trans e3; have hb3 : Below w.heap.size w w2 := hb.drew.trans (hb2.mono hb.size))
          (try dsimp only)
          refine hK.out _ _ ?_ (fun hHeld1 => ?_)
          · (try dsimp only); first | assumption | trivial | go_keep
          clear hK K hHeld0
          (try simp only [Act.put, List.setIfInBounds_toArray, List.set_cons_succ, List.set_cons_zero])
          refine wpAnyH_take (i := 53) (oi := { dst := some 72, op := Go.Op.unOp Go.UnOp.not 4 (Go.Operand.tmp 71), type := 4, pos := "ref.go:164", after := #[{ on := 52, ground := Go.Ground.data }, { on := 40, ground := Go.Ground.guard }], guard := some (40, false) }) (v := ?v_7_53) rfl (by kernel_rfl) (by kernel_rfl) (by kernel_rfl) (fun _ _ _ h => h) (Or.inl ⟨by rfl, ?hy_7_53⟩) (by assumption) ?rest_7_53
          case hy_7_53 => (intro w hSw; (try dsimp only at hSw); go_simp; (try (with_reducible rfl)))
          (try simp only [Act.put, List.setIfInBounds_toArray, List.set_cons_succ, List.set_cons_zero])
          refine wpAnyH_take (i := 54) (oi := { dst := some 73, op := Go.Op.pick (Go.Operand.tmp 59) (Go.Operand.const (Go.Value.bool true)) (Go.Operand.tmp 72), type := 4, pos := "ref.go:164", after := #[{ on := 40, ground := Go.Ground.data }, { on := 53, ground := Go.Ground.data }], guard := none }) (v := ?v_7_54) rfl (by kernel_rfl) (by kernel_rfl) (by kernel_rfl) (fun _ _ _ h => h) (Or.inl ⟨by rfl, ?hy_7_54⟩) (by assumption) ?rest_7_54
          case hy_7_54 => (intro w hSw; (try dsimp only at hSw); go_simp; (try (with_reducible rfl)))
          (try simp only [Act.put, List.setIfInBounds_toArray, List.set_cons_succ, List.set_cons_zero])
          refine wpAnyH_done (by kernel_rfl) ?_ _
          go_wp2
          go_roundw
          case rel => exact ⟨j + 1, by omega, by go_num, HA.out, hb3⟩
          case measure => simp [intOf]; omega

      · obtain rfl : j = la.length := by omega
        have HG := Lib.hid (Tree.sames_all pl la lb HLEN.out fun i h1 h2 => hall i h1 h2 h1)
        clear hall
        go_wp2
        go_ret
        exact ⟨by rw [HG.out]; rfl, hb⟩
end Go.Proofs.Ytnjhbhbohnjckaa
