/-
  The walk of the law's helper few.
-/
import Derived.Test.YtnjhbhbohnjckaaTreeRefCount
import Derived.Test.YtnjhbhbohnjckaaTreeFirst
import Derived.Deep.RegionHeld3
set_option linter.unusedVariables false
set_option linter.unusedSimpArgs false
namespace Go.Proofs.Ytnjhbhbohnjckaa
open Go.RowKit
open Tree (Tr)

/-- What few says: if it says yes, the nodes are few. -/
def RetFew (l : List Tr) (w : World) (e : Ending) (w' : World) : Prop := ∃ b : Bool, e = .returned (.bool b) ∧ (b = true → l.length ≤ 100 ∧ Tree.counts l ≤ 600) ∧ Below w.heap.size w w'
theorem RetFew.no {l : List Tr} {w w' : World} (hb : Below w.heap.size w w') : RetFew l w (.returned (.bool false)) w' := ⟨false, rfl, (fun h => by cases h), hb⟩
theorem RetFew.yes {l : List Tr} {w w' : World} (h : l.length ≤ 100) (hc : Tree.counts l ≤ 600) (hb : Below w.heap.size w w') : RetFew l w (.returned (.bool true)) w' := ⟨true, rfl, (fun _ => ⟨h, hc⟩), hb⟩

set_option maxHeartbeats 4000000 in
set_option maxRecDepth 100000 in
theorem few_any (l : List Tr) (A : Option Addr) (c : Nat) (S : Nat → Prop) (w : World) (hl : Lies w S A l) (hS : ∀ g, S g → g < w.heap.size) (hct : Tree.counts l ≤ 1000000) (hT : ∀ (k : Nat) (h : k < l.length), l[k].text.length ≤ 10000000) :
    Calls Try.prog 15 #[.slice A l.length c] w (RetFew l w) := by
  have HL := Lib.hid hl
  have HT := Lib.hid hT
  have hll := Tree.len_le_counts l
  clear hl hT
  go_enter Try.func15, Try.ntmps15
  go_wp2
  go_loopw [3, 4] (fun nv iv wr => ∃ j n : Nat, j ≤ l.length ∧ iv = .int .i64 (j : Int) ∧ nv = .int .i64 (n : Int) ∧ Tree.counts (l.take j) ≤ n ∧ n ≤ 100000000 ∧ Below w.heap.size w wr) (fun _ iv _ => l.length - (intOf iv).toNat)
  case atStart => exact ⟨0, 0, by omega, rfl, rfl, by simp [Tree.counts], by omega, Below.refl _ _⟩
  case round =>
    obtain ⟨j, n, hj, rfl, rfl, hcn, hn, hb⟩ := hrel
    have hn0 : (0 : Int) ≤ (n : Int) := Int.natCast_nonneg _
    have hn1 : (n : Int) ≤ 100000000 := by omega
    by_cases hjl : j < l.length
    rotate_left
    · obtain rfl : j = l.length := by omega
      rw [List.take_length] at hcn
      by_cases h100 : l.length ≤ 100
      · by_cases h600 : n ≤ 600
        · have q1 : decide ((l.length : Int) ≤ 100) = true := by simp; omega
          have q2 : decide ((n : Int) ≤ 600) = true := by simp; omega
          have q1n : decide (l.length ≤ 100) = true := by simp; omega
          have q2n : decide (n ≤ 600) = true := by simp; omega
          have HF : Hid (∀ w', Below w.heap.size w w' → RetFew l w (.returned (.bool true)) w') := fun w' h => RetFew.yes h100 (by omega) h
          clear hcn h100 h600
          go_wp2
          go_ret
          exact HF.out _ hb
        · have q2 : decide ((n : Int) ≤ 600) = false := by simp; omega
          have q2n : decide (n ≤ 600) = false := by simp; omega
          clear hcn h600
          go_wp2
          go_ret
          exact RetFew.no hb
      · have q1 : decide ((l.length : Int) ≤ 100) = false := by simp; omega
        have q1n : decide (l.length ≤ 100) = false := by simp; omega
        clear hcn
        go_wp2
        all_goals (go_ret; exact RetFew.no hb)
    have hi1 : (j : Int) < (l.length : Int) := by omega
    have dl : decide (j < l.length) = true := by simp; omega
    by_cases h200 : j < 200
    rotate_left
    · have q1 : decide ((j : Int) < 200) = false := by simp; omega
      have q3 : decide ((l.length : Int) ≤ 100) = false := by simp; omega
      have q3n : decide (l.length ≤ 100) = false := by simp; omega
      clear hcn
      go_wp2
      all_goals (go_ret; exact RetFew.no hb)
    have q1 : decide ((j : Int) < 200) = true := by simp; omega
    by_cases h600 : n ≤ 600
    rotate_left
    · have q2 : decide ((n : Int) ≤ 600) = false := by simp; omega
      clear hcn
      go_wp2
      all_goals (go_ret; exact RetFew.no hb)
    have q2 : decide ((n : Int) ≤ 600) = true := by simp; omega
    obtain ⟨g, o, rfl, hg, c0, c1, c2, A', c', c3, hl', -⟩ := HL.out.get j hjl
    have hsz := hb.size
    have hgl := hS _ hg
    have hgr : g < wr.heap.size := by omega
    have d0 := (hb.cell (p := ⟨g, o + j * 4, none⟩) hgl).trans c0
    have d1 := (hb.cell (p := ⟨g, o + j * 4 + 1, none⟩) hgl).trans c1
    have d2 := (hb.cell (p := ⟨g, o + j * 4 + 2, none⟩) hgl).trans c2
    have d3 := (hb.cell (p := ⟨g, o + j * 4 + 3, none⟩) hgl).trans c3
    have hi0 : (0 : Int) ≤ (j : Int) := Int.natCast_nonneg _
    have htk := Tree.counts_take l j hjl
    have htl := Tree.counts_take_le l (j + 1)
    have htx := HT.out j hjl
    obtain ⟨m, hm⟩ : ∃ m, l[j] = m := ⟨_, rfl⟩
    rw [hm] at d0 d1 d2 d3 hl' htk htx
    clear c0 c1 c2 c3 hm
    obtain ⟨mk, mp, mt, ml⟩ := m
    dsimp only [Tree.Tr.kind, Tree.Tr.pos, Tree.Tr.text, Tree.Tr.l] at d0 d1 d2 d3 hl' htx
    rw [Tree.count] at htk
    have hcl : Tree.counts ml ≤ 1000000 := by omega
    have hcall := refCount_any (Tree.counts ml + 1) ml (by omega) mk mp ⟨mt.toArray⟩ A' c' S wr.drew (hl'.keep (fun g hg => hb.drew.block g (hS g hg)) (fun _ h => h)) (fun g hg => Nat.lt_of_lt_of_le (hS g hg) hb.drew.size) hcl
    obtain ⟨cn, hcn2⟩ : ∃ cn, 1 + Tree.counts ml = cn := ⟨_, rfl⟩
    rw [hcn2] at hcall htk
    have HC := Lib.hid hcall
    have hcn3 : cn ≤ 1000001 := by omega
    have hw1 : IntKind.i64.wrap ((n : Int) + (cn : Int)) = (n : Int) + (cn : Int) := IntWalk.i64_in _ (by omega)
    have hw2 : IntKind.i64.wrap ((n : Int) + (cn : Int) + (mt.length : Int)) = (n : Int) + (cn : Int) + (mt.length : Int) := IntWalk.i64_in _ (by omega)
    have HN : Hid (Tree.counts (l.take (j + 1)) ≤ n + cn + mt.length ∧ n + cn + mt.length ≤ 100000000) := ⟨by omega, by omega⟩
    have hS0 : (wr.cell? ⟨g, o + j * 4, none⟩ = some (.int .i64 mk) ∧ wr.cell? ⟨g, o + j * 4 + 1, none⟩ = some (.int .i64 mp) ∧ wr.cell? ⟨g, o + j * 4 + 2, none⟩ = some (.string ⟨mt.toArray⟩) ∧ wr.cell? ⟨g, o + j * 4 + 3, none⟩ = some (.slice A' ml.length c')) := ⟨d0, d1, d2, d3⟩
    clear hcall hcn2 htk htl hcn hl'
    go_wp2_with fail
    refine wp_region_held_drew (S := fun w' => w'.cell? ⟨g, o + j * 4, none⟩ = some (.int .i64 mk) ∧ w'.cell? ⟨g, o + j * 4 + 1, none⟩ = some (.int .i64 mp) ∧ w'.cell? ⟨g, o + j * 4 + 2, none⟩ = some (.string ⟨mt.toArray⟩) ∧ w'.cell? ⟨g, o + j * 4 + 3, none⟩ = some (.slice A' ml.length c')) (by kernel_rfl) ?_ (fun hHeld0 => ?_)
    · first | assumption | go_keep
    refine wpAnyH_take (i := 0) (oi := { dst := some 19, op := Go.Op.move (Go.Operand.tmp 3), type := 3, pos := "law.go:42", after := #[], guard := none }) (v := ?v_1_0) rfl (by kernel_rfl) (by kernel_rfl) (by kernel_rfl) (fun _ _ _ h => h) (Or.inl ⟨by rfl, ?hy_1_0⟩) (by assumption) ?rest_1_0
    case hy_1_0 => (intro w hSw; (try dsimp only at hSw); go_simp; (try (with_reducible rfl)))
    (try simp only [Act.put, List.setIfInBounds_toArray, List.set_cons_succ, List.set_cons_zero])
    refine wpAnyH_take (i := 1) (oi := { dst := some 20, op := Go.Op.move (Go.Operand.tmp 0), type := 27, pos := "law.go:42", after := #[], guard := none }) (v := ?v_1_1) rfl (by kernel_rfl) (by kernel_rfl) (by kernel_rfl) (fun _ _ _ h => h) (Or.inl ⟨by rfl, ?hy_1_1⟩) (by assumption) ?rest_1_1
    case hy_1_1 => (intro w hSw; (try dsimp only at hSw); go_simp; (try (with_reducible rfl)))
    (try simp only [Act.put, List.setIfInBounds_toArray, List.set_cons_succ, List.set_cons_zero])
    refine wpAnyH_take (i := 2) (oi := { dst := some 21, op := Go.Op.move (Go.Operand.tmp 4), type := 3, pos := "law.go:42", after := #[], guard := none }) (v := ?v_1_2) rfl (by kernel_rfl) (by kernel_rfl) (by kernel_rfl) (fun _ _ _ h => h) (Or.inl ⟨by rfl, ?hy_1_2⟩) (by assumption) ?rest_1_2
    case hy_1_2 => (intro w hSw; (try dsimp only at hSw); go_simp; (try (with_reducible rfl)))
    (try simp only [Act.put, List.setIfInBounds_toArray, List.set_cons_succ, List.set_cons_zero])
    refine wpAnyH_take (i := 3) (oi := { dst := some 22, op := Go.Op.indexAddr 27 (Go.Operand.tmp 20) (Go.Operand.tmp 21), type := 0, pos := "law.go:42", after := #[{ on := 1, ground := Go.Ground.data }, { on := 2, ground := Go.Ground.data }], guard := none }) (v := ?v_1_3) rfl (by kernel_rfl) (by kernel_rfl) (by kernel_rfl) (fun _ _ _ h => h) (Or.inl ⟨by rfl, ?hy_1_3⟩) (by assumption) ?rest_1_3
    case hy_1_3 => (intro w hSw; (try dsimp only at hSw); go_simp; (try (with_reducible rfl)))
    (try simp only [Act.put, List.setIfInBounds_toArray, List.set_cons_succ, List.set_cons_zero])
    refine wpAnyH_take (i := 4) (oi := { dst := some 23, op := Go.Op.load 43 (Go.Operand.tmp 22), type := 43, pos := "law.go:42", after := #[{ on := 3, ground := Go.Ground.data }], guard := none }) (v := ?v_1_4) rfl (by kernel_rfl) (by kernel_rfl) (by kernel_rfl) (fun _ _ _ h => h) (Or.inl ⟨by rfl, ?hy_1_4⟩) (by assumption) ?rest_1_4
    case hy_1_4 => (intro w hSw; (try dsimp only at hSw); go_simp; (try (with_reducible rfl)))
    (try simp only [Act.put, List.setIfInBounds_toArray, List.set_cons_succ, List.set_cons_zero])
    refine wpAnyH_take (i := 7) (oi := { dst := some 26, op := Go.Op.move (Go.Operand.tmp 0), type := 27, pos := "law.go:42", after := #[], guard := none }) (v := ?v_1_7) rfl (by kernel_rfl) (by kernel_rfl) (by kernel_rfl) (fun _ _ _ h => h) (Or.inl ⟨by rfl, ?hy_1_7⟩) (by assumption) ?rest_1_7
    case hy_1_7 => (intro w hSw; (try dsimp only at hSw); go_simp; (try (with_reducible rfl)))
    (try simp only [Act.put, List.setIfInBounds_toArray, List.set_cons_succ, List.set_cons_zero])
    refine wpAnyH_take (i := 8) (oi := { dst := some 27, op := Go.Op.move (Go.Operand.tmp 4), type := 3, pos := "law.go:42", after := #[], guard := none }) (v := ?v_1_8) rfl (by kernel_rfl) (by kernel_rfl) (by kernel_rfl) (fun _ _ _ h => h) (Or.inl ⟨by rfl, ?hy_1_8⟩) (by assumption) ?rest_1_8
    case hy_1_8 => (intro w hSw; (try dsimp only at hSw); go_simp; (try (with_reducible rfl)))
    (try simp only [Act.put, List.setIfInBounds_toArray, List.set_cons_succ, List.set_cons_zero])
    refine wpAnyH_take (i := 9) (oi := { dst := some 28, op := Go.Op.indexAddr 27 (Go.Operand.tmp 26) (Go.Operand.tmp 27), type := 0, pos := "law.go:42", after := #[{ on := 7, ground := Go.Ground.data }, { on := 8, ground := Go.Ground.data }], guard := none }) (v := ?v_1_9) rfl (by kernel_rfl) (by kernel_rfl) (by kernel_rfl) (fun _ _ _ h => h) (Or.inl ⟨by rfl, ?hy_1_9⟩) (by assumption) ?rest_1_9
    case hy_1_9 => (intro w hSw; (try dsimp only at hSw); go_simp; (try (with_reducible rfl)))
    (try simp only [Act.put, List.setIfInBounds_toArray, List.set_cons_succ, List.set_cons_zero])
    refine wpAnyH_take (i := 10) (oi := { dst := some 29, op := Go.Op.fieldAddr 43 (Go.Operand.tmp 28) 2, type := 0, pos := "law.go:42", after := #[{ on := 9, ground := Go.Ground.data }], guard := none }) (v := ?v_1_10) rfl (by kernel_rfl) (by kernel_rfl) (by kernel_rfl) (fun _ _ _ h => h) (Or.inl ⟨by rfl, ?hy_1_10⟩) (by assumption) ?rest_1_10
    case hy_1_10 => (intro w hSw; (try dsimp only at hSw); go_simp; (try (with_reducible rfl)))
    (try simp only [Act.put, List.setIfInBounds_toArray, List.set_cons_succ, List.set_cons_zero])
    refine wpAnyH_take (i := 11) (oi := { dst := some 30, op := Go.Op.load 9 (Go.Operand.tmp 29), type := 9, pos := "law.go:42", after := #[{ on := 10, ground := Go.Ground.data }], guard := none }) (v := ?v_1_11) rfl (by kernel_rfl) (by kernel_rfl) (by kernel_rfl) (fun _ _ _ h => h) (Or.inl ⟨by rfl, ?hy_1_11⟩) (by assumption) ?rest_1_11
    case hy_1_11 => (intro w hSw; (try dsimp only at hSw); go_simp; (try (with_reducible rfl)))
    (try simp only [Act.put, List.setIfInBounds_toArray, List.set_cons_succ, List.set_cons_zero])
    refine wpAnyH_take (i := 12) (oi := { dst := some 31, op := Go.Op.call { callee := Go.Callee.builtin Go.Builtin.len, args := #[Go.Operand.tmp 30], argTypes := #[9] }, type := 3, pos := "law.go:42", after := #[{ on := 11, ground := Go.Ground.data }], guard := none }) (v := ?v_1_12) rfl (by kernel_rfl) (by kernel_rfl) (by kernel_rfl) (fun _ _ _ h => h) (Or.inl ⟨by rfl, ?hy_1_12⟩) (by assumption) ?rest_1_12
    case hy_1_12 => (intro w hSw; (try dsimp only at hSw); go_simp; (try (with_reducible rfl)))
    (try simp only [Act.put, List.setIfInBounds_toArray, List.set_cons_succ, List.set_cons_zero])
    refine wpAnyH_ready (rs := [5]) (by kernel_rfl) (by simp) ?_
    refine AllReadyH.cons (o := { dst := some 24, op := Go.Op.call { callee := Go.Callee.value (Go.Operand.func 19), args := #[Go.Operand.tmp 23], argTypes := #[43] }, type := 3, pos := "law.go:42", after := #[{ on := 4, ground := Go.Ground.data }], guard := none }) rfl (fun K hK => ?_) AllReadyH.nil
    go_simp
    ((with_reducible refine HC.out.mono ?_); rintro e w2 ⟨rfl, hb2⟩; have e0 := (hb2.cell (p := ⟨g, o + j * 4, none⟩) hgr).trans d0; have e1 := (hb2.cell (p := ⟨g, o + j * 4 + 1, none⟩) hgr).trans d1; have e2 := (hb2.cell (p := ⟨g, o + j * 4 + 2, none⟩) hgr).trans d2; have e3 := (hb2.cell (p := ⟨g, o + j * 4 + 3, none⟩) hgr).trans d3; have he : (w2.cell? ⟨g, o + j * 4, none⟩ = some (.int .i64 mk) ∧ w2.cell? ⟨g, o + j * 4 + 1, none⟩ = some (.int .i64 mp) ∧ w2.cell? ⟨g, o + j * 4 + 2, none⟩ = some (.string ⟨mt.toArray⟩) ∧ w2.cell? ⟨g, o + j * 4 + 3, none⟩ = some (.slice A' ml.length c')) := ⟨e0, e1, e2, e3⟩)
    (try dsimp only)
    refine hK.out _ _ ?_ (fun hHeld1 => ?_)
    · first | trivial | ((try dsimp only); first | assumption | trivial | go_keep)
    clear hK K hHeld0
    (try simp only [Act.put, List.setIfInBounds_toArray, List.set_cons_succ, List.set_cons_zero])
    refine wpAnyH_take (i := 6) (oi := { dst := some 25, op := Go.Op.binOp Go.BinOp.add 3 (Go.Operand.tmp 19) (Go.Operand.tmp 24) 3, type := 3, pos := "law.go:42", after := #[{ on := 0, ground := Go.Ground.data }, { on := 5, ground := Go.Ground.data }], guard := none }) (v := ?v_1_6) rfl (by kernel_rfl) (by kernel_rfl) (by kernel_rfl) (fun _ _ _ h => h) (Or.inl ⟨by rfl, ?hy_1_6⟩) (by assumption) ?rest_1_6
    case hy_1_6 => (intro w hSw; (try dsimp only at hSw); go_simp; (try (with_reducible rfl)))
    (try simp only [Act.put, List.setIfInBounds_toArray, List.set_cons_succ, List.set_cons_zero])
    refine wpAnyH_take (i := 13) (oi := { dst := some 32, op := Go.Op.binOp Go.BinOp.add 3 (Go.Operand.tmp 25) (Go.Operand.tmp 31) 3, type := 3, pos := "law.go:42", after := #[{ on := 6, ground := Go.Ground.data }, { on := 12, ground := Go.Ground.data }], guard := none }) (v := ?v_1_13) rfl (by kernel_rfl) (by kernel_rfl) (by kernel_rfl) (fun _ _ _ h => h) (Or.inl ⟨by rfl, ?hy_1_13⟩) (by assumption) ?rest_1_13
    case hy_1_13 => (intro w hSw; (try dsimp only at hSw); go_simp; (try (with_reducible rfl)))
    (try simp only [Act.put, List.setIfInBounds_toArray, List.set_cons_succ, List.set_cons_zero])
    refine wpAnyH_take (i := 14) (oi := { dst := some 3, op := Go.Op.assign (Go.Operand.tmp 32), type := 3, pos := "law.go:42", after := #[{ on := 13, ground := Go.Ground.data }, { on := 5, ground := Go.Ground.chain }, { on := 0, ground := Go.Ground.phase }, { on := 1, ground := Go.Ground.phase }, { on := 2, ground := Go.Ground.phase }, { on := 3, ground := Go.Ground.phase }, { on := 4, ground := Go.Ground.phase }, { on := 5, ground := Go.Ground.phase }, { on := 6, ground := Go.Ground.phase }, { on := 7, ground := Go.Ground.phase }, { on := 8, ground := Go.Ground.phase }, { on := 9, ground := Go.Ground.phase }, { on := 10, ground := Go.Ground.phase }, { on := 11, ground := Go.Ground.phase }, { on := 12, ground := Go.Ground.phase }, { on := 13, ground := Go.Ground.phase }], guard := none }) (v := ?v_1_14) rfl (by kernel_rfl) (by kernel_rfl) (by kernel_rfl) (fun _ _ _ h => h) (Or.inl ⟨by rfl, ?hy_1_14⟩) (by assumption) ?rest_1_14
    case hy_1_14 => (intro w hSw; (try dsimp only at hSw); go_simp; (try (with_reducible rfl)))
    (try simp only [Act.put, List.setIfInBounds_toArray, List.set_cons_succ, List.set_cons_zero])
    refine wpAnyH_done (by kernel_rfl) ?_ _
    have hbn : Below w.heap.size w w2 := hb.drew.trans (hb2.mono hsz)
    clear e0 e1 e2 e3 hb2 d0 d1 d2 d3 hw1 hw2 HC hS0
    go_wp2
    go_roundw
    case rel => exact ⟨j + 1, n + cn + mt.length, by omega, by go_num, by go_num, HN.out.1, HN.out.2, hbn⟩
    case measure => simp [intOf]; omega
end Go.Proofs.Ytnjhbhbohnjckaa
