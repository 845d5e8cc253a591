/-
  The walk of the law TreeShows, where what it reads is not great.
-/
import Derived.Test.YtnjhbhbohnjckaaTreeAlive
import Derived.Test.YtnjhbhbohnjckaaTreeFew
import Derived.Test.YtnjhbhbohnjckaaTreeRefLines
import Derived.Test.YtnjhbhbohnjckaaTreeTurned
import Derived.Test.YtnjhbhbohnjckaaTreeSize
import Derived.Deep.RegionHeld3
set_option linter.unusedVariables false
set_option linter.unusedSimpArgs false
namespace Go.Proofs.Ytnjhbhbohnjckaa
open Go.RowKit
open Tree (Tr)

theorem cells8_keep {w w' : World} {B g o h u j : Nat} {mk mp : Int} {mt : List UInt8} {ml : List Tr} {A' B' : Option Addr} {c' d' : Nat} (hc : w.cell? ⟨g, o + j * 4, none⟩ = some (.int .i64 mk) ∧ w.cell? ⟨g, o + j * 4 + 1, none⟩ = some (.int .i64 mp) ∧ w.cell? ⟨g, o + j * 4 + 2, none⟩ = some (.string ⟨mt.toArray⟩) ∧ w.cell? ⟨g, o + j * 4 + 3, none⟩ = some (.slice A' ml.length c') ∧ w.cell? ⟨h, u + j * 4, none⟩ = some (.int .i64 mk) ∧ w.cell? ⟨h, u + j * 4 + 1, none⟩ = some (.int .i64 mp) ∧ w.cell? ⟨h, u + j * 4 + 2, none⟩ = some (.string ⟨mt.toArray⟩) ∧ w.cell? ⟨h, u + j * 4 + 3, none⟩ = some (.slice B' ml.length d')) (hb : Below B w w') (hg : g < B) (hh : h < B) :
    w'.cell? ⟨g, o + j * 4, none⟩ = some (.int .i64 mk) ∧ w'.cell? ⟨g, o + j * 4 + 1, none⟩ = some (.int .i64 mp) ∧ w'.cell? ⟨g, o + j * 4 + 2, none⟩ = some (.string ⟨mt.toArray⟩) ∧ w'.cell? ⟨g, o + j * 4 + 3, none⟩ = some (.slice A' ml.length c') ∧ w'.cell? ⟨h, u + j * 4, none⟩ = some (.int .i64 mk) ∧ w'.cell? ⟨h, u + j * 4 + 1, none⟩ = some (.int .i64 mp) ∧ w'.cell? ⟨h, u + j * 4 + 2, none⟩ = some (.string ⟨mt.toArray⟩) ∧ w'.cell? ⟨h, u + j * 4 + 3, none⟩ = some (.slice B' ml.length d') :=
  ⟨(hb.cell (p := ⟨g, o + j * 4, none⟩) hg).trans hc.1, (hb.cell (p := ⟨g, o + j * 4 + 1, none⟩) hg).trans hc.2.1, (hb.cell (p := ⟨g, o + j * 4 + 2, none⟩) hg).trans hc.2.2.1, (hb.cell (p := ⟨g, o + j * 4 + 3, none⟩) hg).trans hc.2.2.2.1,
   (hb.cell (p := ⟨h, u + j * 4, none⟩) hh).trans hc.2.2.2.2.1, (hb.cell (p := ⟨h, u + j * 4 + 1, none⟩) hh).trans hc.2.2.2.2.2.1, (hb.cell (p := ⟨h, u + j * 4 + 2, none⟩) hh).trans hc.2.2.2.2.2.2.1, (hb.cell (p := ⟨h, u + j * 4 + 3, none⟩) hh).trans hc.2.2.2.2.2.2.2⟩
theorem lies_keep {w w' : World} {S : Nat → Prop} {A : Option Addr} {l : List Tr} {B : Nat} (h : Lies w S A l) (hb : Below B w w') (hS : ∀ g, S g → g < B) : Lies w' S A l :=
  h.keep (fun g hg => hb.block g (hS g hg)) fun _ h => h
theorem texts_le {N : Nat} : ∀ {l : List Tr}, Tree.fitss N l → ∀ (k : Nat) (h : k < l.length), l[k].text.length ≤ N
  | .mk k p t c :: l, h, 0, _ => by rw [Tree.fitss, Tree.fits] at h; exact h.1.1
  | n :: l, h, k + 1, hk => by rw [Tree.fitss] at h; exact texts_le h.2 k (by simpa using hk)

set_option maxHeartbeats 8000000 in
set_option maxRecDepth 100000 in
theorem treeShows_walk (l : List Tr) (A : Option Addr) (c : Nat) (S : Nat → Prop) (w : World) (hl : Lies w S A l) (hS : ∀ g, S g → g < w.heap.size) (hct : Tree.counts l ≤ 1000000) (hfit : Tree.fitss 1048576 l) :
    Calls Try.prog 5 #[.slice A l.length c] w fun e w' => e = .returned (.bool true) ∧ Below w.heap.size w w' := by
  have HF := Lib.hid (few_any l A c S w hl hS hct (fun k h => by have := texts_le hfit k h; omega))
  have hsh := Tree.shows_fits l hfit
  have hlo := Tree.linesOf_len l
  have HL := Lib.hid hl
  clear hl
  go_enter Try.func5, Try.ntmps5
  go_wp2_with fail
  refine HF.out.mono ?_
  rintro e w1 ⟨b, rfl, hfew, hb1⟩
  clear HF
  cases b with
  | false =>
    clear hsh hlo hfew
    go_wp2_with (go_at_call 8; refine (alive_any _).mono ?_; rintro e w5 ⟨rfl, hb7⟩)
    go_ret
    exact ⟨rfl, hb1.trans (hb7.mono hb1.size)⟩
  | true =>
    obtain ⟨hlen, hcn⟩ := hfew rfl
    have hsh2 : (Tree.shows l).length ≤ 1000000000 := by
      have : Tree.counts l * (1048576 + 3) ≤ 600 * (1048576 + 3) := Nat.mul_le_mul_right _ hcn
      omega
    have hlo2 : (Tree.linesOf l).length ≤ 1000000000000 := by
      have : Tree.counts l * ((Tree.shows l).length + 3 * Tree.counts l + 1) ≤ 600 * (1000000000 + 1800 + 1) := Nat.mul_le_mul hcn (by omega)
      omega
    clear hsh hlo hfew
    have s1 := hb1.size
    have hl1 := lies_keep HL.out hb1 hS
    have hS1 : ∀ g, S g → g < w1.heap.size := fun g hg => Nat.lt_of_lt_of_le (hS g hg) s1
    have HG := Lib.hid (given_any (Tree.counts l + 1) l (by omega) (by omega) A c S w1 hl1 hS1)
    go_wp2_with fail
    (with_reducible refine HG.out.mono ?_)
    rintro e w2 ⟨B, d, rfl, hlg, hd, hdm, hb2⟩
    clear HG
    have s2 := hb2.size
    have hl2 := lies_keep hl1 hb2 hS1
    have hS2 : ∀ g, S g → g < w2.heap.size := fun g hg => Nat.lt_of_lt_of_le (hS1 g hg) s2
    have hT2 : ∀ g, Fresh w1.heap.size w2 g → g < w2.heap.size := fun g hg => hg.2
    have bw : Below w.heap.size w w2 := hb1.trans (hb2.mono s1)
    clear hl1 hS1 HL
    go_wp2_with fail
    go_loopw [4] (fun iv wr => ∃ j : Nat, j ≤ l.length ∧ iv = .int .i64 (j : Int) ∧ Below w2.heap.size w2 wr) (fun iv _ => l.length - (intOf iv).toNat)
    case atStart => exact ⟨0, by omega, rfl, Below.refl _ _⟩
    case round =>
      obtain ⟨j, hj, rfl, hbr⟩ := hrel
      have hgr' := lies_keep hlg hbr hT2
      have hlr' := lies_keep hl2 hbr hS2
      have hTr : ∀ g, Fresh w1.heap.size w2 g → g < wr.heap.size := fun g hg => Nat.lt_of_lt_of_le (hT2 g hg) hbr.size
      have hSr : ∀ g, S g → g < wr.heap.size := fun g hg => Nat.lt_of_lt_of_le (hS2 g hg) hbr.size
      by_cases hjl : j < l.length
      rotate_left
      · have HLG := Lib.hid (lines_any l B d _ wr hgr' hTr hct hsh2 hlo2)
        have HLL := Lib.hid (fun W (hW : Below wr.heap.size wr W) => refLinesOf_any l A c S W (lies_keep hlr' hW hSr) (fun g hg => Nat.lt_of_lt_of_le (hSr g hg) hW.size) hct hsh2 hlo2)
        have bwr := bw.trans (hbr.mono bw.size)
        clear hgr' hlr' hTr hSr hlg hl2 hS2 hT2
        go_wp2_with fail
        (with_reducible refine HLG.out.mono ?_)
        rintro e w3 ⟨rfl, hb3⟩
        go_wp2_with fail
        (with_reducible refine (HLL.out _ hb3).mono ?_)
        rintro e w4 ⟨rfl, hb4⟩
        have s3 := hb3.size
        have hb5 := (bwr.trans (hb3.mono bwr.size)).trans (hb4.mono (by have := bwr.size; omega))
        clear HLG HLL hb3 hb4
        go_wp2_with (go_at_call 8; (with_reducible refine (alive_any _).mono ?_); rintro e w5 ⟨rfl, hb7⟩)
        go_ret
        exact ⟨rfl, hb5.trans (hb7.mono hb5.size)⟩
      obtain ⟨g, o, rfl, hg, d0, d1, d2, A', c', d3, hlk, -⟩ := hgr'.get j hjl
      obtain ⟨h, u, rfl, hh, f0, f1, f2, B', d', f3, hrk, -⟩ := hlr'.get j hjl
      have hgr := hTr _ hg
      have hhr := hSr _ hh
      have hN0 := Tree.show1_len l j hjl
      have hct2 := Tree.counts_take l j hjl
      have hct3 := Tree.counts_take_le l (j + 1)
      have hi0 : (0 : Int) ≤ (j : Int) := Int.natCast_nonneg _
      have hi1 : (j : Int) < (l.length : Int) := by omega
      obtain ⟨nd, hnd⟩ : ∃ nd, l[j] = nd := ⟨_, rfl⟩
      rw [hnd] at d0 d1 d2 d3 f0 f1 f2 f3 hlk hrk hN0 hct2
      obtain ⟨mk, mp, mt, ml⟩ := nd
      dsimp only [Tree.Tr.kind, Tree.Tr.pos, Tree.Tr.text, Tree.Tr.l] at d0 d1 d2 d3 f0 f1 f2 f3 hlk hrk
      rw [Tree.count] at hct2
      have hcl : Tree.counts ml ≤ 1000000 := by omega
      have hslm : mk = 0 → (Tree.shows ml).length ≤ 1000000000 := by
        rintro rfl
        rw [Tree.show1, if_neg (by decide), if_neg (by decide), if_pos rfl] at hN0
        simp only [List.length_append, List.length_singleton] at hN0
        omega
      have kg := fun (W : World) (hW : Below wr.heap.size wr W) => And.intro (lies_keep hlk hW hTr) (fun g hg => Nat.lt_of_lt_of_le (hTr g hg) hW.size)
      have kr := fun (W : World) (hW : Below wr.heap.size wr W) => And.intro (lies_keep hrk hW hSr) (fun g hg => Nat.lt_of_lt_of_le (hSr g hg) hW.size)
      obtain ⟨N, hN⟩ : ∃ N, Tree.show1 (.mk mk mp mt ml) = N := ⟨_, rfl⟩
      have hs1 := fun (W : World) (hW : Below wr.heap.size wr W) => show_of mk mp (fun hk => shows_any _ ml (Nat.lt_succ_self _) (hslm hk) hcl) mt A' c' _ W (kg W hW).1 (kg W hW).2 N.length (by rw [hN]) (by rw [← hN]; omega)
      have hs2 := fun (W : World) (hW : Below wr.heap.size wr W) => refShow_of mk mp (fun hk => refShows_any _ ml (Nat.lt_succ_self _) (hslm hk) hcl) mt B' d' _ W (kr W hW).1 (kr W hW).2 N.length (by rw [hN]) (by rw [← hN]; omega)
      rw [hN] at hs1 hs2
      have HS := Lib.hid hs1
      have HRS := Lib.hid hs2
      have HC := Lib.hid (fun (W : World) (hW : Below wr.heap.size wr W) => count_any _ ml (Nat.lt_succ_self _) mk mp ⟨mt.toArray⟩ A' c' _ W (kg W hW).1 (kg W hW).2 hcl)
      have HRC := Lib.hid (fun (W : World) (hW : Below wr.heap.size wr W) => refCount_any _ ml (Nat.lt_succ_self _) mk mp ⟨mt.toArray⟩ B' d' _ W (kr W hW).1 (kr W hW).2 hcl)
      have hd1 := fun (W : World) (hW : Below wr.heap.size wr W) => deep_any _ ml (Nat.lt_succ_self _) mk mp ⟨mt.toArray⟩ A' c' _ W (kg W hW).1 (kg W hW).2 hcl
      have hd2 := fun (W : World) (hW : Below wr.heap.size wr W) => refDeep_any _ ml (Nat.lt_succ_self _) mk mp ⟨mt.toArray⟩ B' d' _ W (kr W hW).1 (kr W hW).2 hcl
      obtain ⟨dp, hdp⟩ : ∃ dp : Nat, (if mk = 0 then Tree.highs ml + 1 else 1 : Nat) = dp := ⟨_, rfl⟩
      rw [hdp] at hd1 hd2
      have HD := Lib.hid hd1
      have HRD := Lib.hid hd2
      have hS0 : wr.cell? ⟨g, o + j * 4, none⟩ = some (.int .i64 mk) ∧ wr.cell? ⟨g, o + j * 4 + 1, none⟩ = some (.int .i64 mp) ∧ wr.cell? ⟨g, o + j * 4 + 2, none⟩ = some (.string ⟨mt.toArray⟩) ∧ wr.cell? ⟨g, o + j * 4 + 3, none⟩ = some (.slice A' ml.length c') ∧ wr.cell? ⟨h, u + j * 4, none⟩ = some (.int .i64 mk) ∧ wr.cell? ⟨h, u + j * 4 + 1, none⟩ = some (.int .i64 mp) ∧ wr.cell? ⟨h, u + j * 4 + 2, none⟩ = some (.string ⟨mt.toArray⟩) ∧ wr.cell? ⟨h, u + j * 4 + 3, none⟩ = some (.slice B' ml.length d') := ⟨d0, d1, d2, d3, f0, f1, f2, f3⟩
      have CC := Lib.hid hS0
      have bw2 : Below wr.heap.size wr wr.drew := (Below.refl _ _).drew
      clear hs1 hs2 hd1 hd2 kg kr hN0 hct2 hct3 hslm hlk hrk hgr' hlr' hnd hN hdp
      go_wp2_with fail
      refine wp_region_held_drew (S := fun w' => w'.cell? ⟨g, o + j * 4, none⟩ = some (.int .i64 mk) ∧ w'.cell? ⟨g, o + j * 4 + 1, none⟩ = some (.int .i64 mp) ∧ w'.cell? ⟨g, o + j * 4 + 2, none⟩ = some (.string ⟨mt.toArray⟩) ∧ w'.cell? ⟨g, o + j * 4 + 3, none⟩ = some (.slice A' ml.length c') ∧ w'.cell? ⟨h, u + j * 4, none⟩ = some (.int .i64 mk) ∧ w'.cell? ⟨h, u + j * 4 + 1, none⟩ = some (.int .i64 mp) ∧ w'.cell? ⟨h, u + j * 4 + 2, none⟩ = some (.string ⟨mt.toArray⟩) ∧ w'.cell? ⟨h, u + j * 4 + 3, none⟩ = some (.slice B' ml.length d')) (by kernel_rfl) ?_ (fun hHeld0 => ?_)
      · first | assumption | go_keep
      refine wpAnyH_take (i := 0) (oi := { dst := some 17, op := Go.Op.move (Go.Operand.tmp 3), type := 23, pos := "law.go:84", after := #[], guard := none }) (v := ?v_1_0) rfl (by kernel_rfl) (by kernel_rfl) (by kernel_rfl) (fun _ _ _ h => h) (Or.inl ⟨by rfl, ?hy_1_0⟩) (by assumption) ?rest_1_0
      case hy_1_0 => (intro w hSw; (try dsimp only at hSw); go_simp; (try (with_reducible rfl)))
      (try simp only [Act.put, List.setIfInBounds_toArray, List.set_cons_succ, List.set_cons_zero])
      refine wpAnyH_take (i := 1) (oi := { dst := some 18, op := Go.Op.move (Go.Operand.tmp 4), type := 3, pos := "law.go:84", after := #[], guard := none }) (v := ?v_1_1) rfl (by kernel_rfl) (by kernel_rfl) (by kernel_rfl) (fun _ _ _ h => h) (Or.inl ⟨by rfl, ?hy_1_1⟩) (by assumption) ?rest_1_1
      case hy_1_1 => (intro w hSw; (try dsimp only at hSw); go_simp; (try (with_reducible rfl)))
      (try simp only [Act.put, List.setIfInBounds_toArray, List.set_cons_succ, List.set_cons_zero])
      refine wpAnyH_take (i := 2) (oi := { dst := some 19, op := Go.Op.indexAddr 23 (Go.Operand.tmp 17) (Go.Operand.tmp 18), type := 0, pos := "law.go:84", after := #[{ on := 0, ground := Go.Ground.data }, { on := 1, ground := Go.Ground.data }], guard := none }) (v := ?v_1_2) rfl (by kernel_rfl) (by kernel_rfl) (by kernel_rfl) (fun _ _ _ h => h) (Or.inl ⟨by rfl, ?hy_1_2⟩) (by assumption) ?rest_1_2
      case hy_1_2 => (intro w hSw; (try dsimp only at hSw); go_simp; (try (with_reducible rfl)))
      (try simp only [Act.put, List.setIfInBounds_toArray, List.set_cons_succ, List.set_cons_zero])
      refine wpAnyH_take (i := 3) (oi := { dst := some 20, op := Go.Op.load 36 (Go.Operand.tmp 19), type := 36, pos := "law.go:84", after := #[{ on := 2, ground := Go.Ground.data }], guard := none }) (v := ?v_1_3) rfl (by kernel_rfl) (by kernel_rfl) (by kernel_rfl) (fun _ _ _ h => h) (Or.inl ⟨by rfl, ?hy_1_3⟩) (by assumption) ?rest_1_3
      case hy_1_3 => (intro w hSw; (try dsimp only at hSw); go_simp; (try (with_reducible rfl)))
      (try simp only [Act.put, List.setIfInBounds_toArray, List.set_cons_succ, List.set_cons_zero])
      refine wpAnyH_take (i := 5) (oi := { dst := some 22, op := Go.Op.move (Go.Operand.tmp 0), type := 27, pos := "law.go:84", after := #[], guard := none }) (v := ?v_1_5) rfl (by kernel_rfl) (by kernel_rfl) (by kernel_rfl) (fun _ _ _ h => h) (Or.inl ⟨by rfl, ?hy_1_5⟩) (by assumption) ?rest_1_5
      case hy_1_5 => (intro w hSw; (try dsimp only at hSw); go_simp; (try (with_reducible rfl)))
      (try simp only [Act.put, List.setIfInBounds_toArray, List.set_cons_succ, List.set_cons_zero])
      refine wpAnyH_take (i := 6) (oi := { dst := some 23, op := Go.Op.move (Go.Operand.tmp 4), type := 3, pos := "law.go:84", after := #[], guard := none }) (v := ?v_1_6) rfl (by kernel_rfl) (by kernel_rfl) (by kernel_rfl) (fun _ _ _ h => h) (Or.inl ⟨by rfl, ?hy_1_6⟩) (by assumption) ?rest_1_6
      case hy_1_6 => (intro w hSw; (try dsimp only at hSw); go_simp; (try (with_reducible rfl)))
      (try simp only [Act.put, List.setIfInBounds_toArray, List.set_cons_succ, List.set_cons_zero])
      refine wpAnyH_take (i := 7) (oi := { dst := some 24, op := Go.Op.indexAddr 27 (Go.Operand.tmp 22) (Go.Operand.tmp 23), type := 0, pos := "law.go:84", after := #[{ on := 5, ground := Go.Ground.data }, { on := 6, ground := Go.Ground.data }], guard := none }) (v := ?v_1_7) rfl (by kernel_rfl) (by kernel_rfl) (by kernel_rfl) (fun _ _ _ h => h) (Or.inl ⟨by rfl, ?hy_1_7⟩) (by assumption) ?rest_1_7
      case hy_1_7 => (intro w hSw; (try dsimp only at hSw); go_simp; (try (with_reducible rfl)))
      (try simp only [Act.put, List.setIfInBounds_toArray, List.set_cons_succ, List.set_cons_zero])
      refine wpAnyH_take (i := 8) (oi := { dst := some 25, op := Go.Op.load 43 (Go.Operand.tmp 24), type := 43, pos := "law.go:84", after := #[{ on := 7, ground := Go.Ground.data }], guard := none }) (v := ?v_1_8) rfl (by kernel_rfl) (by kernel_rfl) (by kernel_rfl) (fun _ _ _ h => h) (Or.inl ⟨by rfl, ?hy_1_8⟩) (by assumption) ?rest_1_8
      case hy_1_8 => (intro w hSw; (try dsimp only at hSw); go_simp; (try (with_reducible rfl)))
      (try simp only [Act.put, List.setIfInBounds_toArray, List.set_cons_succ, List.set_cons_zero])
      refine wpAnyH_ready (rs := [4]) (by kernel_rfl) (by simp) ?_
      refine AllReadyH.cons (o := { dst := some 21, op := Go.Op.call { callee := Go.Callee.value (Go.Operand.func 17), args := #[Go.Operand.tmp 20], argTypes := #[36] }, type := 9, pos := "law.go:84", after := #[{ on := 3, ground := Go.Ground.data }], guard := none }) rfl (fun K hK => ?_) AllReadyH.nil
      go_simp
      ((with_reducible refine (HS.out _ bw2).mono ?_); rintro e w3 ⟨rfl, hb3⟩; have bw3 := bw2.trans (hb3.mono bw2.size); have cc3 := cells8_keep CC.out bw3 hgr hhr)
      (try dsimp only)
      refine hK.out _ _ ?_ (fun hHeld1 => ?_)
      · first | trivial | ((try dsimp only); first | assumption | trivial | go_keep)
      clear hK K hHeld0
      (try simp only [Act.put, List.setIfInBounds_toArray, List.set_cons_succ, List.set_cons_zero])
      refine wpAnyH_ready (rs := [9]) (by kernel_rfl) (by simp) ?_
      refine AllReadyH.cons (o := { dst := some 26, op := Go.Op.call { callee := Go.Callee.value (Go.Operand.func 18), args := #[Go.Operand.tmp 25], argTypes := #[43] }, type := 9, pos := "law.go:84", after := #[{ on := 8, ground := Go.Ground.data }, { on := 4, ground := Go.Ground.chain }], guard := none }) rfl (fun K hK => ?_) AllReadyH.nil
      go_simp
      ((with_reducible refine (HRS.out _ bw3).mono ?_); rintro e w4 ⟨rfl, hb4⟩; have bw4 := bw3.trans (hb4.mono bw3.size); have cc4 := cells8_keep CC.out bw4 hgr hhr)
      (try dsimp only)
      refine hK.out _ _ ?_ (fun hHeld2 => ?_)
      · first | trivial | ((try dsimp only); first | assumption | trivial | go_keep)
      clear hK K hHeld1
      (try simp only [Act.put, List.setIfInBounds_toArray, List.set_cons_succ, List.set_cons_zero])
      refine wpAnyH_take (i := 10) (oi := { dst := some 27, op := Go.Op.binOp Go.BinOp.neq 9 (Go.Operand.tmp 21) (Go.Operand.tmp 26) 9, type := 4, pos := "law.go:84", after := #[{ on := 4, ground := Go.Ground.data }, { on := 9, ground := Go.Ground.data }], guard := none }) (v := ?v_1_10) rfl (by kernel_rfl) (by kernel_rfl) (by kernel_rfl) (fun _ _ _ h => h) (Or.inl ⟨by rfl, ?hy_1_10⟩) (by assumption) ?rest_1_10
      case hy_1_10 => (intro w hSw; (try dsimp only at hSw); go_simp; (try (with_reducible rfl)))
      (try simp only [Act.put, List.setIfInBounds_toArray, List.set_cons_succ, List.set_cons_zero])
      refine wpAnyH_take (i := 11) (oi := { dst := some 28, op := Go.Op.move (Go.Operand.tmp 27), type := 4, pos := "law.go:84", after := #[{ on := 10, ground := Go.Ground.data }, { on := 9, ground := Go.Ground.chain }], guard := none }) (v := ?v_1_11) rfl (by kernel_rfl) (by kernel_rfl) (by kernel_rfl) (fun _ _ _ h => h) (Or.inl ⟨by rfl, ?hy_1_11⟩) (by assumption) ?rest_1_11
      case hy_1_11 => (intro w hSw; (try dsimp only at hSw); go_simp; (try (with_reducible rfl)))
      (try simp only [Act.put, List.setIfInBounds_toArray, List.set_cons_succ, List.set_cons_zero])
      refine wpAnyH_take (i := 12) (oi := { dst := some 29, op := Go.Op.move (Go.Operand.tmp 3), type := 23, pos := "law.go:84", after := #[{ on := 11, ground := Go.Ground.guard }], guard := some (11, false) }) (v := ?v_1_12) rfl (by kernel_rfl) (by kernel_rfl) (by kernel_rfl) (fun _ _ _ h => h) (Or.inl ⟨by rfl, ?hy_1_12⟩) (by assumption) ?rest_1_12
      case hy_1_12 => (intro w hSw; (try dsimp only at hSw); go_simp; (try (with_reducible rfl)))
      (try simp only [Act.put, List.setIfInBounds_toArray, List.set_cons_succ, List.set_cons_zero])
      refine wpAnyH_take (i := 13) (oi := { dst := some 30, op := Go.Op.move (Go.Operand.tmp 4), type := 3, pos := "law.go:84", after := #[{ on := 11, ground := Go.Ground.guard }], guard := some (11, false) }) (v := ?v_1_13) rfl (by kernel_rfl) (by kernel_rfl) (by kernel_rfl) (fun _ _ _ h => h) (Or.inl ⟨by rfl, ?hy_1_13⟩) (by assumption) ?rest_1_13
      case hy_1_13 => (intro w hSw; (try dsimp only at hSw); go_simp; (try (with_reducible rfl)))
      (try simp only [Act.put, List.setIfInBounds_toArray, List.set_cons_succ, List.set_cons_zero])
      refine wpAnyH_take (i := 14) (oi := { dst := some 31, op := Go.Op.indexAddr 23 (Go.Operand.tmp 29) (Go.Operand.tmp 30), type := 0, pos := "law.go:84", after := #[{ on := 12, ground := Go.Ground.data }, { on := 13, ground := Go.Ground.data }, { on := 11, ground := Go.Ground.guard }], guard := some (11, false) }) (v := ?v_1_14) rfl (by kernel_rfl) (by kernel_rfl) (by kernel_rfl) (fun _ _ _ h => h) (Or.inl ⟨by rfl, ?hy_1_14⟩) (by assumption) ?rest_1_14
      case hy_1_14 => (intro w hSw; (try dsimp only at hSw); go_simp; (try (with_reducible rfl)))
      (try simp only [Act.put, List.setIfInBounds_toArray, List.set_cons_succ, List.set_cons_zero])
      refine wpAnyH_take (i := 15) (oi := { dst := some 32, op := Go.Op.load 36 (Go.Operand.tmp 31), type := 36, pos := "law.go:84", after := #[{ on := 14, ground := Go.Ground.data }, { on := 11, ground := Go.Ground.guard }], guard := some (11, false) }) (v := ?v_1_15) rfl (by kernel_rfl) (by kernel_rfl) (by kernel_rfl) (fun _ _ _ h => h) (Or.inl ⟨by rfl, ?hy_1_15⟩) (by assumption) ?rest_1_15
      case hy_1_15 => (intro w hSw; (try dsimp only at hSw); go_simp; (try (with_reducible rfl)))
      (try simp only [Act.put, List.setIfInBounds_toArray, List.set_cons_succ, List.set_cons_zero])
      refine wpAnyH_take (i := 17) (oi := { dst := some 34, op := Go.Op.move (Go.Operand.tmp 0), type := 27, pos := "law.go:84", after := #[{ on := 11, ground := Go.Ground.guard }], guard := some (11, false) }) (v := ?v_1_17) rfl (by kernel_rfl) (by kernel_rfl) (by kernel_rfl) (fun _ _ _ h => h) (Or.inl ⟨by rfl, ?hy_1_17⟩) (by assumption) ?rest_1_17
      case hy_1_17 => (intro w hSw; (try dsimp only at hSw); go_simp; (try (with_reducible rfl)))
      (try simp only [Act.put, List.setIfInBounds_toArray, List.set_cons_succ, List.set_cons_zero])
      refine wpAnyH_take (i := 18) (oi := { dst := some 35, op := Go.Op.move (Go.Operand.tmp 4), type := 3, pos := "law.go:84", after := #[{ on := 11, ground := Go.Ground.guard }], guard := some (11, false) }) (v := ?v_1_18) rfl (by kernel_rfl) (by kernel_rfl) (by kernel_rfl) (fun _ _ _ h => h) (Or.inl ⟨by rfl, ?hy_1_18⟩) (by assumption) ?rest_1_18
      case hy_1_18 => (intro w hSw; (try dsimp only at hSw); go_simp; (try (with_reducible rfl)))
      (try simp only [Act.put, List.setIfInBounds_toArray, List.set_cons_succ, List.set_cons_zero])
      refine wpAnyH_take (i := 19) (oi := { dst := some 36, op := Go.Op.indexAddr 27 (Go.Operand.tmp 34) (Go.Operand.tmp 35), type := 0, pos := "law.go:84", after := #[{ on := 17, ground := Go.Ground.data }, { on := 18, ground := Go.Ground.data }, { on := 11, ground := Go.Ground.guard }], guard := some (11, false) }) (v := ?v_1_19) rfl (by kernel_rfl) (by kernel_rfl) (by kernel_rfl) (fun _ _ _ h => h) (Or.inl ⟨by rfl, ?hy_1_19⟩) (by assumption) ?rest_1_19
      case hy_1_19 => (intro w hSw; (try dsimp only at hSw); go_simp; (try (with_reducible rfl)))
      (try simp only [Act.put, List.setIfInBounds_toArray, List.set_cons_succ, List.set_cons_zero])
      refine wpAnyH_take (i := 20) (oi := { dst := some 37, op := Go.Op.load 43 (Go.Operand.tmp 36), type := 43, pos := "law.go:84", after := #[{ on := 19, ground := Go.Ground.data }, { on := 11, ground := Go.Ground.guard }], guard := some (11, false) }) (v := ?v_1_20) rfl (by kernel_rfl) (by kernel_rfl) (by kernel_rfl) (fun _ _ _ h => h) (Or.inl ⟨by rfl, ?hy_1_20⟩) (by assumption) ?rest_1_20
      case hy_1_20 => (intro w hSw; (try dsimp only at hSw); go_simp; (try (with_reducible rfl)))
      (try simp only [Act.put, List.setIfInBounds_toArray, List.set_cons_succ, List.set_cons_zero])
      refine wpAnyH_ready (rs := [16]) (by kernel_rfl) (by simp) ?_
      refine AllReadyH.cons (o := { dst := some 33, op := Go.Op.call { callee := Go.Callee.value (Go.Operand.func 14), args := #[Go.Operand.tmp 32], argTypes := #[36] }, type := 3, pos := "law.go:84", after := #[{ on := 15, ground := Go.Ground.data }, { on := 11, ground := Go.Ground.chain }, { on := 11, ground := Go.Ground.guard }], guard := some (11, false) }) rfl (fun K hK => ?_) AllReadyH.nil
      go_simp
      ((with_reducible refine (HC.out _ bw4).mono ?_); rintro e w5 ⟨rfl, hb5⟩; have bw5 := bw4.trans (hb5.mono bw4.size); have cc5 := cells8_keep CC.out bw5 hgr hhr)
      (try dsimp only)
      refine hK.out _ _ ?_ (fun hHeld3 => ?_)
      · first | trivial | ((try dsimp only); first | assumption | trivial | go_keep)
      clear hK K hHeld2
      (try simp only [Act.put, List.setIfInBounds_toArray, List.set_cons_succ, List.set_cons_zero])
      refine wpAnyH_ready (rs := [21]) (by kernel_rfl) (by simp) ?_
      refine AllReadyH.cons (o := { dst := some 38, op := Go.Op.call { callee := Go.Callee.value (Go.Operand.func 19), args := #[Go.Operand.tmp 37], argTypes := #[43] }, type := 3, pos := "law.go:84", after := #[{ on := 20, ground := Go.Ground.data }, { on := 16, ground := Go.Ground.chain }, { on := 11, ground := Go.Ground.guard }], guard := some (11, false) }) rfl (fun K hK => ?_) AllReadyH.nil
      go_simp
      ((with_reducible refine (HRC.out _ bw5).mono ?_); rintro e w6 ⟨rfl, hb6⟩; have bw6 := bw5.trans (hb6.mono bw5.size); have cc6 := cells8_keep CC.out bw6 hgr hhr)
      (try dsimp only)
      refine hK.out _ _ ?_ (fun hHeld4 => ?_)
      · first | trivial | ((try dsimp only); first | assumption | trivial | go_keep)
      clear hK K hHeld3
      (try simp only [Act.put, List.setIfInBounds_toArray, List.set_cons_succ, List.set_cons_zero])
      refine wpAnyH_take (i := 22) (oi := { dst := some 39, op := Go.Op.binOp Go.BinOp.neq 3 (Go.Operand.tmp 33) (Go.Operand.tmp 38) 3, type := 4, pos := "law.go:84", after := #[{ on := 16, ground := Go.Ground.data }, { on := 21, ground := Go.Ground.data }, { on := 11, ground := Go.Ground.guard }], guard := some (11, false) }) (v := ?v_1_22) rfl (by kernel_rfl) (by kernel_rfl) (by kernel_rfl) (fun _ _ _ h => h) (Or.inl ⟨by rfl, ?hy_1_22⟩) (by assumption) ?rest_1_22
      case hy_1_22 => (intro w hSw; (try dsimp only at hSw); go_simp; (try (with_reducible rfl)))
      (try simp only [Act.put, List.setIfInBounds_toArray, List.set_cons_succ, List.set_cons_zero])
      refine wpAnyH_take (i := 23) (oi := { dst := some 40, op := Go.Op.pick (Go.Operand.tmp 28) (Go.Operand.const (Go.Value.bool true)) (Go.Operand.tmp 39), type := 4, pos := "law.go:84", after := #[{ on := 11, ground := Go.Ground.data }, { on := 22, ground := Go.Ground.data }], guard := none }) (v := ?v_1_23) rfl (by kernel_rfl) (by kernel_rfl) (by kernel_rfl) (fun _ _ _ h => h) (Or.inl ⟨by rfl, ?hy_1_23⟩) (by assumption) ?rest_1_23
      case hy_1_23 => (intro w hSw; (try dsimp only at hSw); go_simp; (try (with_reducible rfl)))
      (try simp only [Act.put, List.setIfInBounds_toArray, List.set_cons_succ, List.set_cons_zero])
      refine wpAnyH_take (i := 24) (oi := { dst := some 41, op := Go.Op.move (Go.Operand.tmp 40), type := 4, pos := "law.go:84", after := #[{ on := 23, ground := Go.Ground.data }, { on := 21, ground := Go.Ground.chain }], guard := none }) (v := ?v_1_24) rfl (by kernel_rfl) (by kernel_rfl) (by kernel_rfl) (fun _ _ _ h => h) (Or.inl ⟨by rfl, ?hy_1_24⟩) (by assumption) ?rest_1_24
      case hy_1_24 => (intro w hSw; (try dsimp only at hSw); go_simp; (try (with_reducible rfl)))
      (try simp only [Act.put, List.setIfInBounds_toArray, List.set_cons_succ, List.set_cons_zero])
      refine wpAnyH_take (i := 25) (oi := { dst := some 42, op := Go.Op.move (Go.Operand.tmp 3), type := 23, pos := "law.go:84", after := #[{ on := 24, ground := Go.Ground.guard }], guard := some (24, false) }) (v := ?v_1_25) rfl (by kernel_rfl) (by kernel_rfl) (by kernel_rfl) (fun _ _ _ h => h) (Or.inl ⟨by rfl, ?hy_1_25⟩) (by assumption) ?rest_1_25
      case hy_1_25 => (intro w hSw; (try dsimp only at hSw); go_simp; (try (with_reducible rfl)))
      (try simp only [Act.put, List.setIfInBounds_toArray, List.set_cons_succ, List.set_cons_zero])
      refine wpAnyH_take (i := 26) (oi := { dst := some 43, op := Go.Op.move (Go.Operand.tmp 4), type := 3, pos := "law.go:84", after := #[{ on := 24, ground := Go.Ground.guard }], guard := some (24, false) }) (v := ?v_1_26) rfl (by kernel_rfl) (by kernel_rfl) (by kernel_rfl) (fun _ _ _ h => h) (Or.inl ⟨by rfl, ?hy_1_26⟩) (by assumption) ?rest_1_26
      case hy_1_26 => (intro w hSw; (try dsimp only at hSw); go_simp; (try (with_reducible rfl)))
      (try simp only [Act.put, List.setIfInBounds_toArray, List.set_cons_succ, List.set_cons_zero])
      refine wpAnyH_take (i := 27) (oi := { dst := some 44, op := Go.Op.indexAddr 23 (Go.Operand.tmp 42) (Go.Operand.tmp 43), type := 0, pos := "law.go:84", after := #[{ on := 25, ground := Go.Ground.data }, { on := 26, ground := Go.Ground.data }, { on := 24, ground := Go.Ground.guard }], guard := some (24, false) }) (v := ?v_1_27) rfl (by kernel_rfl) (by kernel_rfl) (by kernel_rfl) (fun _ _ _ h => h) (Or.inl ⟨by rfl, ?hy_1_27⟩) (by assumption) ?rest_1_27
      case hy_1_27 => (intro w hSw; (try dsimp only at hSw); go_simp; (try (with_reducible rfl)))
      (try simp only [Act.put, List.setIfInBounds_toArray, List.set_cons_succ, List.set_cons_zero])
      refine wpAnyH_take (i := 28) (oi := { dst := some 45, op := Go.Op.load 36 (Go.Operand.tmp 44), type := 36, pos := "law.go:84", after := #[{ on := 27, ground := Go.Ground.data }, { on := 24, ground := Go.Ground.guard }], guard := some (24, false) }) (v := ?v_1_28) rfl (by kernel_rfl) (by kernel_rfl) (by kernel_rfl) (fun _ _ _ h => h) (Or.inl ⟨by rfl, ?hy_1_28⟩) (by assumption) ?rest_1_28
      case hy_1_28 => (intro w hSw; (try dsimp only at hSw); go_simp; (try (with_reducible rfl)))
      (try simp only [Act.put, List.setIfInBounds_toArray, List.set_cons_succ, List.set_cons_zero])
      refine wpAnyH_take (i := 30) (oi := { dst := some 47, op := Go.Op.move (Go.Operand.tmp 0), type := 27, pos := "law.go:84", after := #[{ on := 24, ground := Go.Ground.guard }], guard := some (24, false) }) (v := ?v_1_30) rfl (by kernel_rfl) (by kernel_rfl) (by kernel_rfl) (fun _ _ _ h => h) (Or.inl ⟨by rfl, ?hy_1_30⟩) (by assumption) ?rest_1_30
      case hy_1_30 => (intro w hSw; (try dsimp only at hSw); go_simp; (try (with_reducible rfl)))
      (try simp only [Act.put, List.setIfInBounds_toArray, List.set_cons_succ, List.set_cons_zero])
      refine wpAnyH_take (i := 31) (oi := { dst := some 48, op := Go.Op.move (Go.Operand.tmp 4), type := 3, pos := "law.go:84", after := #[{ on := 24, ground := Go.Ground.guard }], guard := some (24, false) }) (v := ?v_1_31) rfl (by kernel_rfl) (by kernel_rfl) (by kernel_rfl) (fun _ _ _ h => h) (Or.inl ⟨by rfl, ?hy_1_31⟩) (by assumption) ?rest_1_31
      case hy_1_31 => (intro w hSw; (try dsimp only at hSw); go_simp; (try (with_reducible rfl)))
      (try simp only [Act.put, List.setIfInBounds_toArray, List.set_cons_succ, List.set_cons_zero])
      refine wpAnyH_take (i := 32) (oi := { dst := some 49, op := Go.Op.indexAddr 27 (Go.Operand.tmp 47) (Go.Operand.tmp 48), type := 0, pos := "law.go:84", after := #[{ on := 30, ground := Go.Ground.data }, { on := 31, ground := Go.Ground.data }, { on := 24, ground := Go.Ground.guard }], guard := some (24, false) }) (v := ?v_1_32) rfl (by kernel_rfl) (by kernel_rfl) (by kernel_rfl) (fun _ _ _ h => h) (Or.inl ⟨by rfl, ?hy_1_32⟩) (by assumption) ?rest_1_32
      case hy_1_32 => (intro w hSw; (try dsimp only at hSw); go_simp; (try (with_reducible rfl)))
      (try simp only [Act.put, List.setIfInBounds_toArray, List.set_cons_succ, List.set_cons_zero])
      refine wpAnyH_take (i := 33) (oi := { dst := some 50, op := Go.Op.load 43 (Go.Operand.tmp 49), type := 43, pos := "law.go:84", after := #[{ on := 32, ground := Go.Ground.data }, { on := 24, ground := Go.Ground.guard }], guard := some (24, false) }) (v := ?v_1_33) rfl (by kernel_rfl) (by kernel_rfl) (by kernel_rfl) (fun _ _ _ h => h) (Or.inl ⟨by rfl, ?hy_1_33⟩) (by assumption) ?rest_1_33
      case hy_1_33 => (intro w hSw; (try dsimp only at hSw); go_simp; (try (with_reducible rfl)))
      (try simp only [Act.put, List.setIfInBounds_toArray, List.set_cons_succ, List.set_cons_zero])
      refine wpAnyH_ready (rs := [29]) (by kernel_rfl) (by simp) ?_
      refine AllReadyH.cons (o := { dst := some 46, op := Go.Op.call { callee := Go.Callee.value (Go.Operand.func 13), args := #[Go.Operand.tmp 45], argTypes := #[36] }, type := 3, pos := "law.go:84", after := #[{ on := 28, ground := Go.Ground.data }, { on := 24, ground := Go.Ground.chain }, { on := 24, ground := Go.Ground.guard }], guard := some (24, false) }) rfl (fun K hK => ?_) AllReadyH.nil
      go_simp
      ((with_reducible refine (HD.out _ bw6).mono ?_); rintro e w7 ⟨rfl, hb7⟩; have bw7 := bw6.trans (hb7.mono bw6.size); have cc7 := cells8_keep CC.out bw7 hgr hhr)
      (try dsimp only)
      refine hK.out _ _ ?_ (fun hHeld5 => ?_)
      · first | trivial | ((try dsimp only); first | assumption | trivial | go_keep)
      clear hK K hHeld4
      (try simp only [Act.put, List.setIfInBounds_toArray, List.set_cons_succ, List.set_cons_zero])
      refine wpAnyH_ready (rs := [34]) (by kernel_rfl) (by simp) ?_
      refine AllReadyH.cons (o := { dst := some 51, op := Go.Op.call { callee := Go.Callee.value (Go.Operand.func 20), args := #[Go.Operand.tmp 50], argTypes := #[43] }, type := 3, pos := "law.go:84", after := #[{ on := 33, ground := Go.Ground.data }, { on := 29, ground := Go.Ground.chain }, { on := 24, ground := Go.Ground.guard }], guard := some (24, false) }) rfl (fun K hK => ?_) AllReadyH.nil
      go_simp
      ((with_reducible refine (HRD.out _ bw7).mono ?_); rintro e w8 ⟨rfl, hb8⟩; have bw8 := bw7.trans (hb8.mono bw7.size); have cc8 := cells8_keep CC.out bw8 hgr hhr)
      (try dsimp only)
      refine hK.out _ _ ?_ (fun hHeld6 => ?_)
      · first | trivial | ((try dsimp only); first | assumption | trivial | go_keep)
      clear hK K hHeld5
      (try simp only [Act.put, List.setIfInBounds_toArray, List.set_cons_succ, List.set_cons_zero])
      refine wpAnyH_take (i := 35) (oi := { dst := some 52, op := Go.Op.binOp Go.BinOp.neq 3 (Go.Operand.tmp 46) (Go.Operand.tmp 51) 3, type := 4, pos := "law.go:84", after := #[{ on := 29, ground := Go.Ground.data }, { on := 34, ground := Go.Ground.data }, { on := 24, ground := Go.Ground.guard }], guard := some (24, false) }) (v := ?v_1_35) rfl (by kernel_rfl) (by kernel_rfl) (by kernel_rfl) (fun _ _ _ h => h) (Or.inl ⟨by rfl, ?hy_1_35⟩) (by assumption) ?rest_1_35
      case hy_1_35 => (intro w hSw; (try dsimp only at hSw); go_simp; (try (with_reducible rfl)))
      (try simp only [Act.put, List.setIfInBounds_toArray, List.set_cons_succ, List.set_cons_zero])
      refine wpAnyH_take (i := 36) (oi := { dst := some 53, op := Go.Op.pick (Go.Operand.tmp 41) (Go.Operand.const (Go.Value.bool true)) (Go.Operand.tmp 52), type := 4, pos := "law.go:84", after := #[{ on := 24, ground := Go.Ground.data }, { on := 35, ground := Go.Ground.data }], guard := none }) (v := ?v_1_36) rfl (by kernel_rfl) (by kernel_rfl) (by kernel_rfl) (fun _ _ _ h => h) (Or.inl ⟨by rfl, ?hy_1_36⟩) (by assumption) ?rest_1_36
      case hy_1_36 => (intro w hSw; (try dsimp only at hSw); go_simp; (try (with_reducible rfl)))
      (try simp only [Act.put, List.setIfInBounds_toArray, List.set_cons_succ, List.set_cons_zero])
      refine wpAnyH_done (by kernel_rfl) ?_ _
      have hbn : Below w2.heap.size w2 w8 := hbr.trans (bw8.mono hbr.size)
      clear HS HRS HC HRC HD HRD CC cc3 cc4 cc5 cc6 cc7 cc8 d0 d1 d2 d3 f0 f1 f2 f3 hS0
      go_wp2
      go_roundw
      case rel => exact ⟨j + 1, by omega, by go_num, hbn⟩
      case measure => simp [intOf]; omega
end Go.Proofs.Ytnjhbhbohnjckaa
