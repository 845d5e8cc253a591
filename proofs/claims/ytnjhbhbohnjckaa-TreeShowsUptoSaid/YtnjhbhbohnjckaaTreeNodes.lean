/-
  The walk of tree.Parse's closure nodes.
-/
import Derived.Test.YtnjhbhbohnjckaaTreeEnv
import Derived.Test.YtnjhbhbohnjckaaTreeCount
import Derived.Deep.RegionHeld3
import Derived.Deep.CutBlock
set_option linter.unusedVariables false
set_option linter.unusedSimpArgs false
namespace Go.Proofs.Ytnjhbhbohnjckaa
open Go.RowKit
open Tree (Tr)
namespace Tree
open Tok (Tk)
section
variable {L : List Tk} {f i deep op : Nat} {acc : List Tr} {kd ps : Nat} {tx : List UInt8}
theorem row_end_bad (h : L.getD i ⟨4, 0, []⟩ = ⟨kd, ps, tx⟩) (h4 : kd = 4) (hd : 0 < deep) : row L (f + 1) i deep op acc = .bad op 3 := by
  rw [row, h, if_pos h4, if_pos hd]
theorem row_end_ok (h : L.getD i ⟨4, 0, []⟩ = ⟨kd, ps, tx⟩) (h4 : kd = 4) (hd : ¬ 0 < deep) : row L (f + 1) i deep op acc = .ok acc i := by
  rw [row, h, if_pos h4, if_neg hd]
theorem row_close_bad (h : L.getD i ⟨4, 0, []⟩ = ⟨kd, ps, tx⟩) (h1 : kd = 1) (hd : deep = 0) : row L (f + 1) i deep op acc = .bad ps 4 := by
  rw [row, h, if_neg (by show ¬ kd = 4; omega), if_pos h1, if_pos hd]
theorem row_close_ok (h : L.getD i ⟨4, 0, []⟩ = ⟨kd, ps, tx⟩) (h1 : kd = 1) (hd : ¬ deep = 0) : row L (f + 1) i deep op acc = .ok acc (i + 1) := by
  rw [row, h, if_neg (by show ¬ kd = 4; omega), if_pos h1, if_neg hd]
theorem row_deep (h : L.getD i ⟨4, 0, []⟩ = ⟨kd, ps, tx⟩) (h0 : kd = 0) (hd : deep = 200) : row L (f + 1) i deep op acc = .bad ps 6 := by
  rw [row, h, if_neg (by show ¬ kd = 4; omega), if_neg (by show ¬ kd = 1; omega), if_pos h0, if_pos hd]
theorem row_open_bad (h : L.getD i ⟨4, 0, []⟩ = ⟨kd, ps, tx⟩) (h0 : kd = 0) (hd : ¬ deep = 200) {p : Nat} {er : Int} (hr : row L f (i + 1) (deep + 1) ps [] = .bad p er) : row L (f + 1) i deep op acc = .bad p er := by
  rw [row, h, if_neg (by show ¬ kd = 4; omega), if_neg (by show ¬ kd = 1; omega), if_pos h0, if_neg hd]
  dsimp only
  rw [hr]
theorem row_open_ok (h : L.getD i ⟨4, 0, []⟩ = ⟨kd, ps, tx⟩) (h0 : kd = 0) (hd : ¬ deep = 200) {l : List Tr} {j : Nat} (hr : row L f (i + 1) (deep + 1) ps [] = .ok l j) : row L (f + 1) i deep op acc = row L f j deep op (acc ++ [.mk kd ps [] l]) := by
  rw [row, h, if_neg (by show ¬ kd = 4; omega), if_neg (by show ¬ kd = 1; omega), if_pos h0, if_neg hd]
  dsimp only
  rw [hr, h0]; rfl
theorem row_leaf (h : L.getD i ⟨4, 0, []⟩ = ⟨kd, ps, tx⟩) (h4 : ¬ kd = 4) (h1 : ¬ kd = 1) (h0 : ¬ kd = 0) : row L (f + 1) i deep op acc = row L f (i + 1) deep op (acc ++ [.mk kd ps tx []]) := by
  rw [row, h, if_neg h4, if_neg h1, if_neg h0]
end
end Tree

theorem NRow.set {w : World} {base : Nat} {e : TypeId} {v : Value} {l : List Tr} (h : NRow w base e v l) {g : Nat} (hg : g < base) (o : Nat) (u : Value) : NRow (w.setCell ⟨g, o, none⟩ u) base e v l :=
  h.keep (by simp [World.setCell]) fun k hk _ => Below.heap_setCell _ _ _ _ (by show k ≠ g; omega)
theorem Var.fram {b K : Nat} {cs : Array Value} {t : TypeId} {w w' : World} (h : Var w K cs t) (hf : Fram b w w') (hK : b + 6 ≤ K) : Var w' K cs t := (hf.far K h.lt (by omega) (by omega) (by omega)).trans h
theorem NRow.fram {b : Nat} {w w' : World} {base : Nat} {e : TypeId} {v : Value} {l : List Tr} (h : NRow w base e v l) (hf : Fram b w w') (hb : b + 6 ≤ base) : NRow w' base e v l :=
  h.keep hf.bel.size fun g h1 h2 => hf.far g h2 (by omega) (by omega) (by omega)
/-- What nodes says of a row. -/
def NodesEnd (r : Tree.Rw) (deep b gT cT : Nat) (L : List Tok.Tk) (w : World) (e : Ending) (w' : World) : Prop :=
  ∃ next' bad' wrong', Env w' b gT cT L next' bad' wrong' ∧ Fram b w w' ∧
    match r with
    | .ok l j => ∃ A c, e = .returned (.slice A l.length c) ∧ Lies w' (Fresh w.heap.size w') A l ∧ l.length ≤ c ∧ c ≤ maxLen ∧ wrong' = 0 ∧ (0 < deep → next' = j)
    | .bad p er => e = .returned (.slice none 0 0) ∧ bad' = p ∧ wrong' = er ∧ er ≠ 0
/-- The loop's measure: what is left of the tokens, or nothing behind an error. -/
def msr (n b : Nat) (w : World) : Nat :=
  match w.cell? ⟨b + 3, 0, none⟩ with
  | some (.int _ 0) => (match w.cell? ⟨b + 1, 0, none⟩ with | some (.int _ i) => n + 1 - i.toNat | _ => 0)
  | _ => 0
theorem Env.msr0 {w : World} {b gT cT : Nat} {L : List Tok.Tk} {i : Nat} {bad : Int} (h : Env w b gT cT L (i : Int) bad 0) : msr L.length b w = L.length + 1 - i := by
  have h1 := h.wrong.cells 0
  have h2 := h.next.cells 0
  simp only [List.getElem?_toArray, List.getElem?_cons_zero] at h1 h2
  unfold msr
  rw [h1, h2]; rfl
theorem Env.msr1 {w : World} {b gT cT : Nat} {L : List Tok.Tk} {next bad er : Int} (h : Env w b gT cT L next bad er) (he : er ≠ 0) : msr L.length b w = 0 := by
  have h1 := h.wrong.cells 0
  simp only [List.getElem?_toArray, List.getElem?_cons_zero] at h1
  unfold msr
  rw [h1]
  split
  · rename_i e
    injection e with e
    injection e with _ e
    exact absurd e he
  · rfl

def AfterTok (w : World) (K b gT cT : Nat) (L : List Tok.Tk) (i : Nat) (bad : Int) (kd ps : Nat) (tx : List UInt8) (A : Option Addr) (c : Nat) (acc : List Tr) (w' : World) : Prop :=
  Env w' b gT cT L ((i : Int) + 1) bad 0 ∧ Var w' K #[.int .i64 (kd : Int), .int .i64 (ps : Int), .string ⟨tx.toArray⟩] 55 ∧ NRow w' w.heap.size 36 (.slice A acc.length c) acc ∧ Fram b w w' ∧ w'.heap.size = K + 1 ∧ ∀ g, Value.ownBlock (.slice A acc.length c) = some g → g < K

set_option maxHeartbeats 20000000 in
set_option maxRecDepth 100000 in
theorem nodes_any (b gT cT : Nat) (L : List Tok.Tk) (hE : Tree.Ends L) (hL : L.length ≤ 100000000) (hcT : L.length ≤ cT) : ∀ (f i0 deep : Nat) (op : Nat), L.length - i0 ≤ f → i0 < L.length → deep ≤ 200 → ∀ (bad : Int) (w : World), Env w b gT cT L (i0 : Int) bad 0 →
    Calls Try.prog 26 #[.int .i64 (op : Int), .int .i64 (deep : Int), .pointer (some ⟨b + 3, 0, none⟩), .pointer (some ⟨b, 0, none⟩), .pointer (some ⟨b + 1, 0, none⟩), .pointer (some ⟨b + 4, 0, none⟩), .pointer (some ⟨b + 5, 0, none⟩)] w (NodesEnd (Tree.row L f i0 deep op []) deep b gT cT L w) := by
  intro f
  induction f using Nat.strongRecOn with
  | _ f ih =>
  intro i0 deep op hf hi0 hdeep bad w henv
  have h6 := henv.size
  go_enter Try.func26, Try.ntmps26
  go_wp2
  go_loopw [10] (fun v wr =>
      (∃ (i fu : Nat) (acc : List Tr) (A : Option Addr) (c : Nat) (bad : Int), v = .slice A acc.length c ∧ NRow wr w.heap.size 36 (.slice A acc.length c) acc ∧ Env wr b gT cT L (i : Int) bad 0 ∧ Fram b w wr ∧ i < L.length ∧ acc.length ≤ i ∧ fu ≤ f ∧ L.length - i ≤ fu ∧ Tree.row L fu i deep op acc = Tree.row L f i0 deep op []) ∨
      (∃ (next p er : Int) (pn : Nat), p = pn ∧ Env wr b gT cT L next p er ∧ Fram b w wr ∧ er ≠ 0 ∧ Tree.row L f i0 deep op [] = .bad pn er)) (fun _ wr => msr L.length b wr)
  case atStart => exact .inl ⟨i0, f, [], none, 0, bad, rfl, NRow.nil _ _ _, henv, Fram.refl _ _, hi0, by simp, Nat.le_refl _, hf, rfl⟩
  case round =>
    rcases hrel with ⟨i, fu, acc, A, c, bad, rfl, hrow, henv, hfr, hi, hai, hfu, hfl, hrw⟩ | ⟨next, p, er, pn, rfl, henv, hfr, her, hrw⟩
    rotate_left
    · have q3 := henv.wrong.cells 0
      simp only [List.getElem?_toArray, List.getElem?_cons_zero] at q3
      have g3 : (er == 0) = false := by simpa using her
      have HB := Lib.hid hrw
      clear hrw
      go_wp2
      go_ret
      exact ⟨next, pn, er, henv, hfr, by rw [HB.out]; exact ⟨rfl, rfl, rfl, her⟩⟩
    have hm0 := henv.msr0
    have q0 := henv.l.cells 0
    have q1 := henv.next.cells 0
    have q3 := henv.wrong.cells 0
    have z1 := henv.next.froz 0
    simp only [List.getElem?_toArray, List.getElem?_cons_zero] at q0 q1 q3
    have ht := henv.toks i hi
    obtain ⟨t0, t1, t2⟩ := ht
    have hb6 := henv.size
    have hgb := henv.gb
    have hgl : gT < wr.heap.size := by omega
    have hE0 := hE i hi
    have hEg := Tree.Ends.get hi
    obtain ⟨tk, htk⟩ : ∃ tk, L[i] = tk := ⟨_, rfl⟩
    rw [htk] at t0 t1 t2 hE0 hEg
    obtain ⟨kd, ps, tx⟩ := tk
    dsimp only at t0 t1 t2 hE0
    have hii : (0 : Int) ≤ (i : Int) := Int.natCast_nonneg _
    have hil : (i : Int) < (L.length : Int) := by omega
    have hcT' : (L.length : Int) ≤ (cT : Int) := by omega
    have hne : wr.heap.size ≠ b + 1 := by omega
    have hne' : b + 1 ≠ wr.heap.size := by omega
    have hlt1 : b + 1 < wr.heap.size := by omega
    have hz0 := Var.new wr #[.int .i64 (kd : Int), .int .i64 (ps : Int), .string ⟨tx.toArray⟩] 55
    have HRW := Lib.hid hrw
    have HEG := Lib.hid hEg
    have HEZ := Lib.hid hE0
    have hsz : w.heap.size ≤ wr.heap.size := hfr.bel.size
    have hF : AfterTok w wr.heap.size b gT cT L i bad kd ps tx A c acc ((wr.setCell ⟨b + 1, 0, none⟩ (.int .i64 ((i : Int) + 1))).alloc (.cells #[.int .i64 (kd : Int), .int .i64 (ps : Int), .string ⟨tx.toArray⟩] 55)) := by
      have hs0 : (wr.setCell ⟨b + 1, 0, none⟩ (.int .i64 ((i : Int) + 1))).heap.size = wr.heap.size := by simp [World.setCell]
      refine ⟨(henv.set_next _).alloc _, ?_, (hrow.set (by omega) _ _).alloc _, (hfr.set (by omega) _ _).alloc (by omega) _, by simp [World.setCell], fun g hg => (hrow.lt g hg).2⟩
      have := Var.new (wr.setCell ⟨b + 1, 0, none⟩ (.int .i64 ((i : Int) + 1))) #[.int .i64 (kd : Int), .int .i64 (ps : Int), .string ⟨tx.toArray⟩] 55
      rw [hs0] at this
      exact this
    have HF := Lib.hid hF
    clear htk hrw hEg hE0 hz0 hF henv hrow hfr

    go_upto_region 6 with fail
    refine at_code (F := AfterTok w wr.heap.size b gT cT L i bad kd ps tx A c acc) HF.out ?_
    rintro wx ⟨henv, hv, hrow, hfr, hsx, hown⟩
    rw [show ((i : Int) + 1) = ((i + 1 : Nat) : Int) from by omega] at henv
    have HM := Lib.hid hm0
    clear HF q0 q1 q3 z1 t0 t1 t2 hm0
    have v0 := hv.cells 0
    have v1 := hv.cells 1
    have v2 := hv.cells 2
    have q3 := henv.wrong.cells 0
    have q4 := henv.fail.cells 0
    have q5 := henv.nodes.cells 0
    simp only [List.getElem?_toArray, List.getElem?_cons_zero, List.getElem?_cons_succ] at v0 v1 v2 q3 q4 q5
    obtain ⟨f3, rfl⟩ : ∃ f3, fu = f3 + 1 := ⟨fu - 1, by omega⟩
    by_cases k4 : kd = 4
    · have b4 : ((kd : Int) == 4) = true := by simp; omega
      have b1 : ((kd : Int) == 1) = false := by simp; omega
      by_cases d0 : 0 < deep
      · have e0 : decide ((0 : Int) < (deep : Int)) = true := by simp; omega
        have e0n : decide (0 < deep) = true := by simp; omega
        have HB := Lib.hid (HRW.out.symm.trans (Tree.row_end_bad HEG.out k4 d0))
        have HC := Lib.hid (fail_any henv (op : Int) 3)
        clear k4 d0
        go_wp2_with fail
        refine HC.out.mono ?_
        rintro e w5 ⟨rfl, henv5, hf5, -⟩
        have hf6 := hfr.trans hf5
        have hm3 := henv5.msr1 (by decide)
        clear henv HC q3 q4 q5
        go_wp2
        go_roundw
        case rel => exact .inr ⟨_, _, _, op, rfl, henv5, hf6, by decide, HB.out⟩
        case measure => rw [hm3, HM.out]; omega
      · have e0 : decide ((0 : Int) < (deep : Int)) = false := by simp; omega
        have e0n : decide (0 < deep) = false := by simp; omega
        have e0' : ((deep : Int) == 0) = true := by simp; omega
        have HB := Lib.hid (HRW.out.symm.trans (Tree.row_end_ok HEG.out k4 d0))
        have hL' := hrow.lies
        have hC := hrow.cap
        have D0 := Lib.hid d0
        clear k4 d0
        go_wp2
        go_ret
        refine ⟨_, _, _, henv, hfr, ?_⟩
        rw [HB.out]
        exact ⟨A, c, rfl, hL', hC.2.1, hC.2.2, rfl, fun h => absurd h D0.out⟩
    have b4 : ((kd : Int) == 4) = false := by simp; omega
    by_cases k1 : kd = 1
    · have b1 : ((kd : Int) == 1) = true := by simp; omega
      by_cases d0 : deep = 0
      · have e0 : ((deep : Int) == 0) = true := by simp; omega
        have HB := Lib.hid (HRW.out.symm.trans (Tree.row_close_bad HEG.out k1 d0))
        have HC := Lib.hid (fail_any henv (ps : Int) 4)
        clear k1 d0
        go_wp2_with fail
        refine HC.out.mono ?_
        rintro e w5 ⟨rfl, henv5, hf5, -⟩
        have hf6 := hfr.trans hf5
        have hm3 := henv5.msr1 (by decide)
        clear henv HC q3 q4 q5
        go_wp2
        go_roundw
        case rel => exact .inr ⟨_, _, _, ps, rfl, henv5, hf6, by decide, HB.out⟩
        case measure => rw [hm3, HM.out]; omega
      · have e0 : ((deep : Int) == 0) = false := by simp; omega
        have HB := Lib.hid (HRW.out.symm.trans (Tree.row_close_ok HEG.out k1 d0))
        have hL' := hrow.lies
        have hC := hrow.cap
        clear k1 d0
        go_wp2
        go_ret
        refine ⟨_, _, _, henv, hfr, ?_⟩
        rw [HB.out]
        exact ⟨A, c, rfl, hL', hC.2.1, hC.2.2, rfl, fun _ => rfl⟩
    have b1 : ((kd : Int) == 1) = false := by simp; omega
    have hi1 : i + 1 < L.length := by
      have := HEZ.out
      omega
    by_cases k0 : kd = 0
    rotate_left
    · have b0 : ((kd : Int) == 0) = false := by simp; omega
      have HB := Lib.hid ((Tree.row_leaf HEG.out k4 k1 k0).symm.trans HRW.out)
      clear k4 k1 k0
      go_wp2_with (at_builtin; refine app_node wx rfl (.tmp 20) (.tmp 28) 23 36 rfl Try.underlying23 (by kernel_rfl) w.heap.size (.slice A acc.length c) acc (kd : Int) (ps : Int) tx none [] 0 rfl hrow (wr.heap.size + 1) hsx rfl (Lies.nil_ _ _ _) ⟨Nat.le_refl _, Nat.zero_le _⟩ (by omega) (by omega) ?_; intro A3 c3 w3 hr3 hb3 _)
      have henv3 := henv.below hb3 h6
      have hfr3 := hfr.step hb3 (Nat.le_refl _) (by omega)
      have hln : (acc ++ [Tr.mk (kd : Int) (ps : Int) tx []]).length = acc.length + 1 := by simp
      have hm3 := henv3.msr0
      clear henv hrow hfr q3 q4 q5
      go_wp2
      go_roundw
      case rel => exact .inl ⟨i + 1, f3, _, A3, c3, bad, by rw [hln], by rw [hln]; exact hr3, henv3, hfr3, hi1, by rw [hln]; omega, by omega, by omega, HB.out⟩
      case measure => rw [hm3, HM.out]; omega
    have b0 : ((kd : Int) == 0) = true := by simp; omega
    by_cases d2 : deep = 200
    · have e2 : ((deep : Int) == 200) = true := by simp; omega
      have HB := Lib.hid (HRW.out.symm.trans (Tree.row_deep HEG.out k0 d2))
      have HC := Lib.hid (fail_any henv (ps : Int) 6)
      clear k0 d2
      go_wp2_with fail
      refine HC.out.mono ?_
      rintro e w5 ⟨rfl, henv5, hf5, -⟩
      have hf6 := hfr.trans hf5
      have hm3 := henv5.msr1 (by decide)
      clear henv HC q3 q4 q5
      go_wp2
      go_roundw
      case rel => exact .inr ⟨_, _, _, ps, rfl, henv5, hf6, by decide, HB.out⟩
      case measure => rw [hm3, HM.out]; omega
    have e2 : ((deep : Int) == 200) = false := by simp; omega
    have hcall := ih f3 (by omega) (i + 1) (deep + 1) ps (by omega) hi1 (by omega) bad wx.drew henv.drew
    rw [show ((deep + 1 : Nat) : Int) = (deep : Int) + 1 from by omega] at hcall
    unfold NodesEnd at hcall
    rcases hr : Tree.row L f3 (i + 1) (deep + 1) ps [] with ⟨l, j⟩ | ⟨pb, er⟩
    · rw [hr] at hcall
      dsimp only at hcall
      have hj := Tree.row_ok hE _ _ _ _ _ _ _ (by omega) hi1 hr
      have HB := Lib.hid ((Tree.row_open_ok HEG.out k0 d2 hr).symm.trans HRW.out)
      have HC := Lib.hid hcall
      have HWD := Lib.hid (IntWalk.i64_in ((deep : Int) + 1) (by omega))
      clear hcall hr k0 k1 k4
      go_wp2_with fail
      refine wp_region_held_drew (S := fun w' => w'.cell? ⟨wr.heap.size, 0, none⟩ = some (.int .i64 (kd : Int)) ∧ w'.cell? ⟨wr.heap.size, 1, none⟩ = some (.int .i64 (ps : Int)) ∧ w'.cell? ⟨b + 5, 0, none⟩ = some (.func (.func 26) #[] #[.pointer (some ⟨b + 3, 0, none⟩), .pointer (some ⟨b, 0, none⟩), .pointer (some ⟨b + 1, 0, none⟩), .pointer (some ⟨b + 4, 0, none⟩), .pointer (some ⟨b + 5, 0, none⟩)])) (by kernel_rfl) ?_ (fun hHeld0 => ?_)
      · first | assumption | go_keep
      refine wpAnyH_take (i := 0) (oi := { dst := some 77, op := Go.Op.move (Go.Operand.tmp 10), type := 23, pos := "tree.go:50", after := #[], guard := none }) (v := ?v_1_0) rfl (by kernel_rfl) (by kernel_rfl) (by kernel_rfl) (fun _ _ _ h => h) (Or.inl ⟨by rfl, ?hy_1_0⟩) (by assumption) ?rest_1_0
      case hy_1_0 => (intro w hSw; (try dsimp only at hSw); go_simp; (try (with_reducible rfl)))
      (try simp only [Act.put, List.setIfInBounds_toArray, List.set_cons_succ, List.set_cons_zero])
      refine wpAnyH_take (i := 1) (oi := { dst := some 78, op := Go.Op.fieldAddr 55 (Go.Operand.tmp 11) 0, type := 0, pos := "tree.go:50", after := #[], guard := none }) (v := ?v_1_1) rfl (by kernel_rfl) (by kernel_rfl) (by kernel_rfl) (fun _ _ _ h => h) (Or.inl ⟨by rfl, ?hy_1_1⟩) (by assumption) ?rest_1_1
      case hy_1_1 => (intro w hSw; (try dsimp only at hSw); go_simp; (try (with_reducible rfl)))
      (try simp only [Act.put, List.setIfInBounds_toArray, List.set_cons_succ, List.set_cons_zero])
      refine wpAnyH_take (i := 2) (oi := { dst := some 79, op := Go.Op.load 34 (Go.Operand.tmp 78), type := 34, pos := "tree.go:50", after := #[{ on := 1, ground := Go.Ground.data }], guard := none }) (v := ?v_1_2) rfl (by kernel_rfl) (by kernel_rfl) (by kernel_rfl) (fun _ _ _ h => h) (Or.inl ⟨by rfl, ?hy_1_2⟩) (by assumption) ?rest_1_2
      case hy_1_2 => (intro w hSw; (try dsimp only at hSw); go_simp; (try (with_reducible rfl)))
      (try simp only [Act.put, List.setIfInBounds_toArray, List.set_cons_succ, List.set_cons_zero])
      refine wpAnyH_take (i := 3) (oi := { dst := some 80, op := Go.Op.fieldAddr 55 (Go.Operand.tmp 11) 1, type := 0, pos := "tree.go:50", after := #[], guard := none }) (v := ?v_1_3) rfl (by kernel_rfl) (by kernel_rfl) (by kernel_rfl) (fun _ _ _ h => h) (Or.inl ⟨by rfl, ?hy_1_3⟩) (by assumption) ?rest_1_3
      case hy_1_3 => (intro w hSw; (try dsimp only at hSw); go_simp; (try (with_reducible rfl)))
      (try simp only [Act.put, List.setIfInBounds_toArray, List.set_cons_succ, List.set_cons_zero])
      refine wpAnyH_take (i := 4) (oi := { dst := some 81, op := Go.Op.load 3 (Go.Operand.tmp 80), type := 3, pos := "tree.go:50", after := #[{ on := 3, ground := Go.Ground.data }], guard := none }) (v := ?v_1_4) rfl (by kernel_rfl) (by kernel_rfl) (by kernel_rfl) (fun _ _ _ h => h) (Or.inl ⟨by rfl, ?hy_1_4⟩) (by assumption) ?rest_1_4
      case hy_1_4 => (intro w hSw; (try dsimp only at hSw); go_simp; (try (with_reducible rfl)))
      (try simp only [Act.put, List.setIfInBounds_toArray, List.set_cons_succ, List.set_cons_zero])
      refine wpAnyH_take (i := 5) (oi := { dst := some 82, op := Go.Op.load 53 (Go.Operand.tmp 6), type := 53, pos := "tree.go:50", after := #[], guard := none }) (v := ?v_1_5) rfl (by kernel_rfl) (by kernel_rfl) (by kernel_rfl) (fun _ _ _ h => h) (Or.inl ⟨by rfl, ?hy_1_5⟩) (by assumption) ?rest_1_5
      case hy_1_5 => (intro w hSw; (try dsimp only at hSw); go_simp; (try (with_reducible rfl)))
      (try simp only [Act.put, List.setIfInBounds_toArray, List.set_cons_succ, List.set_cons_zero])
      refine wpAnyH_take (i := 6) (oi := { dst := some 83, op := Go.Op.fieldAddr 55 (Go.Operand.tmp 11) 1, type := 0, pos := "tree.go:50", after := #[], guard := none }) (v := ?v_1_6) rfl (by kernel_rfl) (by kernel_rfl) (by kernel_rfl) (fun _ _ _ h => h) (Or.inl ⟨by rfl, ?hy_1_6⟩) (by assumption) ?rest_1_6
      case hy_1_6 => (intro w hSw; (try dsimp only at hSw); go_simp; (try (with_reducible rfl)))
      (try simp only [Act.put, List.setIfInBounds_toArray, List.set_cons_succ, List.set_cons_zero])
      refine wpAnyH_take (i := 7) (oi := { dst := some 84, op := Go.Op.load 3 (Go.Operand.tmp 83), type := 3, pos := "tree.go:50", after := #[{ on := 6, ground := Go.Ground.data }], guard := none }) (v := ?v_1_7) rfl (by kernel_rfl) (by kernel_rfl) (by kernel_rfl) (fun _ _ _ h => h) (Or.inl ⟨by rfl, ?hy_1_7⟩) (by assumption) ?rest_1_7
      case hy_1_7 => (intro w hSw; (try dsimp only at hSw); go_simp; (try (with_reducible rfl)))
      (try simp only [Act.put, List.setIfInBounds_toArray, List.set_cons_succ, List.set_cons_zero])
      refine wpAnyH_take (i := 8) (oi := { dst := some 85, op := Go.Op.move (Go.Operand.tmp 1), type := 3, pos := "tree.go:50", after := #[], guard := none }) (v := ?v_1_8) rfl (by kernel_rfl) (by kernel_rfl) (by kernel_rfl) (fun _ _ _ h => h) (Or.inl ⟨by rfl, ?hy_1_8⟩) (by assumption) ?rest_1_8
      case hy_1_8 => (intro w hSw; (try dsimp only at hSw); go_simp; (try (with_reducible rfl)))
      (try simp only [Act.put, List.setIfInBounds_toArray, List.set_cons_succ, List.set_cons_zero])
      refine wpAnyH_take (i := 9) (oi := { dst := some 86, op := Go.Op.binOp Go.BinOp.add 3 (Go.Operand.tmp 85) (Go.Operand.const (Go.Value.int Go.IntKind.i64 1)) 3, type := 3, pos := "tree.go:50", after := #[{ on := 8, ground := Go.Ground.data }], guard := none }) (v := ?v_1_9) rfl (by kernel_rfl) (by kernel_rfl) (by kernel_rfl) (fun _ _ _ h => h) (Or.inl ⟨by rfl, ?hy_1_9⟩) (by assumption) ?rest_1_9
      case hy_1_9 => (intro w hSw; (try dsimp only at hSw); go_simp; (try (with_reducible rfl)))
      (try simp only [Act.put, List.setIfInBounds_toArray, List.set_cons_succ, List.set_cons_zero])
      refine wpAnyH_ready (rs := [10]) (by kernel_rfl) (by simp) ?_
      refine AllReadyH.cons (o := { dst := some 87, op := Go.Op.call { callee := Go.Callee.value (Go.Operand.tmp 82), args := #[Go.Operand.tmp 84, Go.Operand.tmp 86], argTypes := #[3, 3] }, type := 23, pos := "tree.go:50", after := #[{ on := 5, ground := Go.Ground.data }, { on := 7, ground := Go.Ground.data }, { on := 9, ground := Go.Ground.data }], guard := none }) rfl (fun K hK => ?_) AllReadyH.nil
      go_simp
      ((rw [HWD.out]); (with_reducible refine HC.out.mono ?_); rintro e w2 ⟨nx, bd, wg, henv', hf2, A2, c2, rfl, hl2, hcc2, hcm2, rfl, hnx⟩; have hv' := hv.drew.fram hf2 (by omega); have hr2 := hrow.drew.fram hf2 (by omega); have hfr2 := hfr.drew.trans hf2; have v0' := hv'.cells 0; have v1' := hv'.cells 1; have q5' := henv'.nodes.cells 0; simp only [List.getElem?_toArray, List.getElem?_cons_zero, List.getElem?_cons_succ] at v0' v1' q5'; have hk2 := kids_of' hrow.drew (show w.heap.size ≤ wx.drew.heap.size from by show w.heap.size ≤ wx.heap.size; omega) hl2; clear hl2; have hsz2 := hfr2.bel.size; have hs2 := hf2.bel.size; have hKw : wr.heap.size < w2.heap.size := hv'.lt; have hKne := Nat.ne_of_lt hKw; have hbw : b + 5 < w2.heap.size := henv'.nodes.lt; have hbne := Nat.ne_of_lt hbw)
      (try dsimp only)
      refine hK.out _ _ ?_ (fun hHeld1 => ?_)
      · (try dsimp only); first | assumption | trivial | go_keep
      clear hK K hHeld0
      (try simp only [Act.put, List.setIfInBounds_toArray, List.set_cons_succ, List.set_cons_zero])
      refine wpAnyH_take (i := 11) (oi := { dst := some 88, op := Go.Op.build 36 #[(0, Go.Operand.tmp 79), (1, Go.Operand.tmp 81), (3, Go.Operand.tmp 87)], type := 36, pos := "tree.go:50", after := #[{ on := 2, ground := Go.Ground.data }, { on := 4, ground := Go.Ground.data }, { on := 10, ground := Go.Ground.data }], guard := none }) (v := ?v_1_11) rfl (by kernel_rfl) (by kernel_rfl) (by kernel_rfl) (fun _ _ _ h => h) (Or.inl ⟨by rfl, ?hy_1_11⟩) (by assumption) ?rest_1_11
      case hy_1_11 => (intro w hSw; (try dsimp only at hSw); go_simp; (try (with_reducible rfl)))
      (try simp only [Act.put, List.setIfInBounds_toArray, List.set_cons_succ, List.set_cons_zero])
      refine wpAnyH_ready (rs := [12]) (by kernel_rfl) (by simp) ?_
      refine AllReadyH.cons (o := { dst := some 89, op := Go.Op.buildSlice 23 1 #[(0, Go.Operand.tmp 88)], type := 23, pos := "tree.go:50", after := #[{ on := 11, ground := Go.Ground.data }], guard := none }) rfl (fun K hK => ?_) AllReadyH.nil
      go_simp
      skip
      (try dsimp only)
      refine hK.out _ _ ?_ (fun hHeld2 => ?_)
      · (try dsimp only); first | assumption | trivial | go_keep
      clear hK K hHeld1
      (try simp only [Act.put, List.setIfInBounds_toArray, List.set_cons_succ, List.set_cons_zero])
      refine wpAnyH_ready (rs := [13]) (by kernel_rfl) (by simp) ?_
      refine AllReadyH.cons (o := { dst := some 90, op := Go.Op.call { callee := Go.Callee.builtin Go.Builtin.append, args := #[Go.Operand.tmp 77, Go.Operand.tmp 89], argTypes := #[23, 23] }, type := 23, pos := "tree.go:50", after := #[{ on := 0, ground := Go.Ground.data }, { on := 12, ground := Go.Ground.data }, { on := 10, ground := Go.Ground.chain }], guard := none }) rfl (fun K hK => ?_) AllReadyH.nil
      (refine step_node w2 (by rfl) (.tmp 77) (.tmp 89) 23 36 (by rfl) Try.underlying23 (by kernel_rfl) w.heap.size (.slice A acc.length c) acc (kd : Int) (ps : Int) [] A2 l c2 (by rfl) hr2 w2.heap.size rfl (by rfl) hk2 ⟨hcc2, hcm2⟩ (by omega) (by omega) ?_; intro A3 c3 w3 hr3 hb3 hk3; have hv3 : Var w3 wr.heap.size _ _ := (hk3 _ hv'.lt (fun e => Nat.lt_irrefl _ (hown _ e))).trans hv'; have henv3 := henv'.below hb3 h6; have v0'' := hv3.cells 0; have v1'' := hv3.cells 1; have q5'' := henv3.nodes.cells 0; simp only [List.getElem?_toArray, List.getElem?_cons_zero, List.getElem?_cons_succ] at v0'' v1'' q5'')
      (try dsimp only)
      refine hK.out _ _ ?_ (fun hHeld3 => ?_)
      · (try dsimp only); first | assumption | trivial | go_keep
      clear hK K hHeld2
      (try simp only [Act.put, List.setIfInBounds_toArray, List.set_cons_succ, List.set_cons_zero])
      refine wpAnyH_take (i := 14) (oi := { dst := some 10, op := Go.Op.assign (Go.Operand.tmp 90), type := 23, pos := "tree.go:50", after := #[{ on := 13, ground := Go.Ground.data }, { on := 13, ground := Go.Ground.chain }, { on := 0, ground := Go.Ground.phase }, { on := 1, ground := Go.Ground.phase }, { on := 2, ground := Go.Ground.phase }, { on := 3, ground := Go.Ground.phase }, { on := 4, ground := Go.Ground.phase }, { on := 5, ground := Go.Ground.phase }, { on := 6, ground := Go.Ground.phase }, { on := 7, ground := Go.Ground.phase }, { on := 8, ground := Go.Ground.phase }, { on := 9, ground := Go.Ground.phase }, { on := 10, ground := Go.Ground.phase }, { on := 11, ground := Go.Ground.phase }, { on := 12, ground := Go.Ground.phase }, { on := 13, ground := Go.Ground.phase }], guard := none }) (v := ?v_1_14) rfl (by kernel_rfl) (by kernel_rfl) (by kernel_rfl) (fun _ _ _ h => h) (Or.inl ⟨by rfl, ?hy_1_14⟩) (by assumption) ?rest_1_14
      case hy_1_14 => (intro w hSw; (try dsimp only at hSw); go_simp; (try (with_reducible rfl)))
      (try simp only [Act.put, List.setIfInBounds_toArray, List.set_cons_succ, List.set_cons_zero])
      refine wpAnyH_done (by kernel_rfl) ?_ _
      have hfr3 := hfr2.step hb3 (Nat.le_refl _) (by omega)
      have hln : (acc ++ [Tr.mk (kd : Int) (ps : Int) [] l]).length = acc.length + 1 := by simp
      obtain rfl := hnx (by omega)
      have hm3 := henv3.msr0
      go_wp2
      go_roundw
      case rel => exact .inl ⟨j, f3, _, A3, c3, _, by rw [hln], by rw [hln]; exact hr3, henv3, hfr3, hj.2, by rw [hln]; omega, by omega, by omega, HB.out⟩
      case measure => rw [hm3, HM.out]; omega
    · rw [hr] at hcall
      dsimp only at hcall
      have HB := Lib.hid (HRW.out.symm.trans (Tree.row_open_bad HEG.out k0 d2 hr))
      have HC := Lib.hid hcall
      have HWD := Lib.hid (IntWalk.i64_in ((deep : Int) + 1) (by omega))
      clear hcall hr k0 k1 k4
      go_wp2_with fail
      refine wp_region_held_drew (S := fun w' => w'.cell? ⟨wr.heap.size, 0, none⟩ = some (.int .i64 (kd : Int)) ∧ w'.cell? ⟨wr.heap.size, 1, none⟩ = some (.int .i64 (ps : Int)) ∧ w'.cell? ⟨b + 5, 0, none⟩ = some (.func (.func 26) #[] #[.pointer (some ⟨b + 3, 0, none⟩), .pointer (some ⟨b, 0, none⟩), .pointer (some ⟨b + 1, 0, none⟩), .pointer (some ⟨b + 4, 0, none⟩), .pointer (some ⟨b + 5, 0, none⟩)])) (by kernel_rfl) ?_ (fun hHeld0 => ?_)
      · first | assumption | go_keep
      refine wpAnyH_take (i := 0) (oi := { dst := some 77, op := Go.Op.move (Go.Operand.tmp 10), type := 23, pos := "tree.go:50", after := #[], guard := none }) (v := ?v_2_0) rfl (by kernel_rfl) (by kernel_rfl) (by kernel_rfl) (fun _ _ _ h => h) (Or.inl ⟨by rfl, ?hy_2_0⟩) (by assumption) ?rest_2_0
      case hy_2_0 => (intro w hSw; (try dsimp only at hSw); go_simp; (try (with_reducible rfl)))
      (try simp only [Act.put, List.setIfInBounds_toArray, List.set_cons_succ, List.set_cons_zero])
      refine wpAnyH_take (i := 1) (oi := { dst := some 78, op := Go.Op.fieldAddr 55 (Go.Operand.tmp 11) 0, type := 0, pos := "tree.go:50", after := #[], guard := none }) (v := ?v_2_1) rfl (by kernel_rfl) (by kernel_rfl) (by kernel_rfl) (fun _ _ _ h => h) (Or.inl ⟨by rfl, ?hy_2_1⟩) (by assumption) ?rest_2_1
      case hy_2_1 => (intro w hSw; (try dsimp only at hSw); go_simp; (try (with_reducible rfl)))
      (try simp only [Act.put, List.setIfInBounds_toArray, List.set_cons_succ, List.set_cons_zero])
      refine wpAnyH_take (i := 2) (oi := { dst := some 79, op := Go.Op.load 34 (Go.Operand.tmp 78), type := 34, pos := "tree.go:50", after := #[{ on := 1, ground := Go.Ground.data }], guard := none }) (v := ?v_2_2) rfl (by kernel_rfl) (by kernel_rfl) (by kernel_rfl) (fun _ _ _ h => h) (Or.inl ⟨by rfl, ?hy_2_2⟩) (by assumption) ?rest_2_2
      case hy_2_2 => (intro w hSw; (try dsimp only at hSw); go_simp; (try (with_reducible rfl)))
      (try simp only [Act.put, List.setIfInBounds_toArray, List.set_cons_succ, List.set_cons_zero])
      refine wpAnyH_take (i := 3) (oi := { dst := some 80, op := Go.Op.fieldAddr 55 (Go.Operand.tmp 11) 1, type := 0, pos := "tree.go:50", after := #[], guard := none }) (v := ?v_2_3) rfl (by kernel_rfl) (by kernel_rfl) (by kernel_rfl) (fun _ _ _ h => h) (Or.inl ⟨by rfl, ?hy_2_3⟩) (by assumption) ?rest_2_3
      case hy_2_3 => (intro w hSw; (try dsimp only at hSw); go_simp; (try (with_reducible rfl)))
      (try simp only [Act.put, List.setIfInBounds_toArray, List.set_cons_succ, List.set_cons_zero])
      refine wpAnyH_take (i := 4) (oi := { dst := some 81, op := Go.Op.load 3 (Go.Operand.tmp 80), type := 3, pos := "tree.go:50", after := #[{ on := 3, ground := Go.Ground.data }], guard := none }) (v := ?v_2_4) rfl (by kernel_rfl) (by kernel_rfl) (by kernel_rfl) (fun _ _ _ h => h) (Or.inl ⟨by rfl, ?hy_2_4⟩) (by assumption) ?rest_2_4
      case hy_2_4 => (intro w hSw; (try dsimp only at hSw); go_simp; (try (with_reducible rfl)))
      (try simp only [Act.put, List.setIfInBounds_toArray, List.set_cons_succ, List.set_cons_zero])
      refine wpAnyH_take (i := 5) (oi := { dst := some 82, op := Go.Op.load 53 (Go.Operand.tmp 6), type := 53, pos := "tree.go:50", after := #[], guard := none }) (v := ?v_2_5) rfl (by kernel_rfl) (by kernel_rfl) (by kernel_rfl) (fun _ _ _ h => h) (Or.inl ⟨by rfl, ?hy_2_5⟩) (by assumption) ?rest_2_5
      case hy_2_5 => (intro w hSw; (try dsimp only at hSw); go_simp; (try (with_reducible rfl)))
      (try simp only [Act.put, List.setIfInBounds_toArray, List.set_cons_succ, List.set_cons_zero])
      refine wpAnyH_take (i := 6) (oi := { dst := some 83, op := Go.Op.fieldAddr 55 (Go.Operand.tmp 11) 1, type := 0, pos := "tree.go:50", after := #[], guard := none }) (v := ?v_2_6) rfl (by kernel_rfl) (by kernel_rfl) (by kernel_rfl) (fun _ _ _ h => h) (Or.inl ⟨by rfl, ?hy_2_6⟩) (by assumption) ?rest_2_6
      case hy_2_6 => (intro w hSw; (try dsimp only at hSw); go_simp; (try (with_reducible rfl)))
      (try simp only [Act.put, List.setIfInBounds_toArray, List.set_cons_succ, List.set_cons_zero])
      refine wpAnyH_take (i := 7) (oi := { dst := some 84, op := Go.Op.load 3 (Go.Operand.tmp 83), type := 3, pos := "tree.go:50", after := #[{ on := 6, ground := Go.Ground.data }], guard := none }) (v := ?v_2_7) rfl (by kernel_rfl) (by kernel_rfl) (by kernel_rfl) (fun _ _ _ h => h) (Or.inl ⟨by rfl, ?hy_2_7⟩) (by assumption) ?rest_2_7
      case hy_2_7 => (intro w hSw; (try dsimp only at hSw); go_simp; (try (with_reducible rfl)))
      (try simp only [Act.put, List.setIfInBounds_toArray, List.set_cons_succ, List.set_cons_zero])
      refine wpAnyH_take (i := 8) (oi := { dst := some 85, op := Go.Op.move (Go.Operand.tmp 1), type := 3, pos := "tree.go:50", after := #[], guard := none }) (v := ?v_2_8) rfl (by kernel_rfl) (by kernel_rfl) (by kernel_rfl) (fun _ _ _ h => h) (Or.inl ⟨by rfl, ?hy_2_8⟩) (by assumption) ?rest_2_8
      case hy_2_8 => (intro w hSw; (try dsimp only at hSw); go_simp; (try (with_reducible rfl)))
      (try simp only [Act.put, List.setIfInBounds_toArray, List.set_cons_succ, List.set_cons_zero])
      refine wpAnyH_take (i := 9) (oi := { dst := some 86, op := Go.Op.binOp Go.BinOp.add 3 (Go.Operand.tmp 85) (Go.Operand.const (Go.Value.int Go.IntKind.i64 1)) 3, type := 3, pos := "tree.go:50", after := #[{ on := 8, ground := Go.Ground.data }], guard := none }) (v := ?v_2_9) rfl (by kernel_rfl) (by kernel_rfl) (by kernel_rfl) (fun _ _ _ h => h) (Or.inl ⟨by rfl, ?hy_2_9⟩) (by assumption) ?rest_2_9
      case hy_2_9 => (intro w hSw; (try dsimp only at hSw); go_simp; (try (with_reducible rfl)))
      (try simp only [Act.put, List.setIfInBounds_toArray, List.set_cons_succ, List.set_cons_zero])
      refine wpAnyH_ready (rs := [10]) (by kernel_rfl) (by simp) ?_
      refine AllReadyH.cons (o := { dst := some 87, op := Go.Op.call { callee := Go.Callee.value (Go.Operand.tmp 82), args := #[Go.Operand.tmp 84, Go.Operand.tmp 86], argTypes := #[3, 3] }, type := 23, pos := "tree.go:50", after := #[{ on := 5, ground := Go.Ground.data }, { on := 7, ground := Go.Ground.data }, { on := 9, ground := Go.Ground.data }], guard := none }) rfl (fun K hK => ?_) AllReadyH.nil
      go_simp
      ((rw [HWD.out]); (with_reducible refine HC.out.mono ?_); rintro e w2 ⟨nx, bd, wg, henv', hf2, rfl, rfl, rfl, her⟩; have hv' := hv.drew.fram hf2 (by omega); have hr2 := hrow.drew.fram hf2 (by omega); have hfr2 := hfr.drew.trans hf2; have v0' := hv'.cells 0; have v1' := hv'.cells 1; have q5' := henv'.nodes.cells 0; simp only [List.getElem?_toArray, List.getElem?_cons_zero, List.getElem?_cons_succ] at v0' v1' q5'; skip; have hsz2 := hfr2.bel.size; have hs2 := hf2.bel.size; have hKw : wr.heap.size < w2.heap.size := hv'.lt; have hKne := Nat.ne_of_lt hKw; have hbw : b + 5 < w2.heap.size := henv'.nodes.lt; have hbne := Nat.ne_of_lt hbw)
      (try dsimp only)
      refine hK.out _ _ ?_ (fun hHeld1 => ?_)
      · (try dsimp only); first | assumption | trivial | go_keep
      clear hK K hHeld0
      (try simp only [Act.put, List.setIfInBounds_toArray, List.set_cons_succ, List.set_cons_zero])
      refine wpAnyH_take (i := 11) (oi := { dst := some 88, op := Go.Op.build 36 #[(0, Go.Operand.tmp 79), (1, Go.Operand.tmp 81), (3, Go.Operand.tmp 87)], type := 36, pos := "tree.go:50", after := #[{ on := 2, ground := Go.Ground.data }, { on := 4, ground := Go.Ground.data }, { on := 10, ground := Go.Ground.data }], guard := none }) (v := ?v_2_11) rfl (by kernel_rfl) (by kernel_rfl) (by kernel_rfl) (fun _ _ _ h => h) (Or.inl ⟨by rfl, ?hy_2_11⟩) (by assumption) ?rest_2_11
      case hy_2_11 => (intro w hSw; (try dsimp only at hSw); go_simp; (try (with_reducible rfl)))
      (try simp only [Act.put, List.setIfInBounds_toArray, List.set_cons_succ, List.set_cons_zero])
      refine wpAnyH_ready (rs := [12]) (by kernel_rfl) (by simp) ?_
      refine AllReadyH.cons (o := { dst := some 89, op := Go.Op.buildSlice 23 1 #[(0, Go.Operand.tmp 88)], type := 23, pos := "tree.go:50", after := #[{ on := 11, ground := Go.Ground.data }], guard := none }) rfl (fun K hK => ?_) AllReadyH.nil
      go_simp
      skip
      (try dsimp only)
      refine hK.out _ _ ?_ (fun hHeld2 => ?_)
      · (try dsimp only); first | assumption | trivial | go_keep
      clear hK K hHeld1
      (try simp only [Act.put, List.setIfInBounds_toArray, List.set_cons_succ, List.set_cons_zero])
      refine wpAnyH_ready (rs := [13]) (by kernel_rfl) (by simp) ?_
      refine AllReadyH.cons (o := { dst := some 90, op := Go.Op.call { callee := Go.Callee.builtin Go.Builtin.append, args := #[Go.Operand.tmp 77, Go.Operand.tmp 89], argTypes := #[23, 23] }, type := 23, pos := "tree.go:50", after := #[{ on := 0, ground := Go.Ground.data }, { on := 12, ground := Go.Ground.data }, { on := 10, ground := Go.Ground.chain }], guard := none }) rfl (fun K hK => ?_) AllReadyH.nil
      (refine step_node w2 (by rfl) (.tmp 77) (.tmp 89) 23 36 (by rfl) Try.underlying23 (by kernel_rfl) w.heap.size (.slice A acc.length c) acc (kd : Int) (ps : Int) [] none [] 0 (by rfl) hr2 w2.heap.size rfl (by rfl) (Lies.nil_ _ _ _) ⟨Nat.le_refl _, Nat.zero_le _⟩ (by omega) (by omega) ?_; intro A3 c3 w3 hr3 hb3 hk3; have hv3 : Var w3 wr.heap.size _ _ := (hk3 _ hv'.lt (fun e => Nat.lt_irrefl _ (hown _ e))).trans hv'; have henv3 := henv'.below hb3 h6; have v0'' := hv3.cells 0; have v1'' := hv3.cells 1; have q5'' := henv3.nodes.cells 0; simp only [List.getElem?_toArray, List.getElem?_cons_zero, List.getElem?_cons_succ] at v0'' v1'' q5'')
      (try dsimp only)
      refine hK.out _ _ ?_ (fun hHeld3 => ?_)
      · (try dsimp only); first | assumption | trivial | go_keep
      clear hK K hHeld2
      (try simp only [Act.put, List.setIfInBounds_toArray, List.set_cons_succ, List.set_cons_zero])
      refine wpAnyH_take (i := 14) (oi := { dst := some 10, op := Go.Op.assign (Go.Operand.tmp 90), type := 23, pos := "tree.go:50", after := #[{ on := 13, ground := Go.Ground.data }, { on := 13, ground := Go.Ground.chain }, { on := 0, ground := Go.Ground.phase }, { on := 1, ground := Go.Ground.phase }, { on := 2, ground := Go.Ground.phase }, { on := 3, ground := Go.Ground.phase }, { on := 4, ground := Go.Ground.phase }, { on := 5, ground := Go.Ground.phase }, { on := 6, ground := Go.Ground.phase }, { on := 7, ground := Go.Ground.phase }, { on := 8, ground := Go.Ground.phase }, { on := 9, ground := Go.Ground.phase }, { on := 10, ground := Go.Ground.phase }, { on := 11, ground := Go.Ground.phase }, { on := 12, ground := Go.Ground.phase }, { on := 13, ground := Go.Ground.phase }], guard := none }) (v := ?v_2_14) rfl (by kernel_rfl) (by kernel_rfl) (by kernel_rfl) (fun _ _ _ h => h) (Or.inl ⟨by rfl, ?hy_2_14⟩) (by assumption) ?rest_2_14
      case hy_2_14 => (intro w hSw; (try dsimp only at hSw); go_simp; (try (with_reducible rfl)))
      (try simp only [Act.put, List.setIfInBounds_toArray, List.set_cons_succ, List.set_cons_zero])
      refine wpAnyH_done (by kernel_rfl) ?_ _
      have hfr3 := hfr2.step hb3 (Nat.le_refl _) (by omega)
      have hm3 := henv3.msr1 her
      go_wp2
      go_roundw
      case rel => exact .inr ⟨_, _, _, pb, rfl, henv3, hfr3, her, HB.out⟩
      case measure => rw [hm3, HM.out]; omega
end Go.Proofs.Ytnjhbhbohnjckaa
