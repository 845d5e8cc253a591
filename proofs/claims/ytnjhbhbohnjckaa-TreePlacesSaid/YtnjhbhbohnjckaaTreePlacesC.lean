/-
  The walk of the law's helper places, where all stands where it says.
-/
import Derived.Test.YtnjhbhbohnjckaaTreePlacesP
import Derived.Test.YtnjhbhbohnjckaaTreeCount
import Derived.Test.YtnjhbhbohnjckaaTreeParse
import Derived.Deep.QuietTactic
import Derived.BigQuiet
set_option linter.unusedVariables false
set_option linter.unusedSimpArgs false
namespace Go.Proofs.Ytnjhbhbohnjckaa
open Go.RowKit
open Tree (Tr)
attribute [local go_sem] ByteArray.extract_mk

namespace Tree
theorem plcs_cons {s : List UInt8} {fr z : Nat} {k p : Int} {t : List UInt8} {c l : List Tr} (h : plcs s fr (.mk k p t c :: l) = some z) : ∃ pn m, p = (pn : Nat) ∧ fr ≤ pn ∧ pn < s.length ∧ plcs s m l = some z ∧
    ((k = 2 ∧ pn + t.length ≤ s.length ∧ (s.drop pn).take t.length = t ∧ m = pn + 1) ∨ (k = 3 ∧ s.getD pn 0 = 34 ∧ m = pn + 1) ∨ (k ≠ 2 ∧ k ≠ 3 ∧ s.getD pn 0 = 40 ∧ plcs s (pn + 1) c = some m)) := by
  rw [plcs, plc] at h
  split at h
  · cases h
  · rename_i m hm
    split at hm
    · cases hm
    · rename_i hp
      have hp0 : 0 ≤ p := by omega
      refine ⟨p.toNat, m, by omega, by omega, by omega, h, ?_⟩
      split at hm
      · rename_i hk
        split at hm
        · rename_i hx
          injection hm with hm
          exact .inl ⟨hk, hx.1, hx.2, hm.symm⟩
        · cases hm
      · rename_i hk
        split at hm
        · rename_i hk3
          split at hm
          · rename_i hx
            injection hm with hm
            exact .inr (.inl ⟨hk3, hx, hm.symm⟩)
          · cases hm
        · rename_i hk3
          split at hm
          · rename_i hx
            exact .inr (.inr ⟨hk, hk3, hx, hm⟩)
          · cases hm
end Tree

set_option maxHeartbeats 4000000 in
set_option maxRecDepth 100000 in
theorem places_any (s : List UInt8) (hs : s.length ≤ 1000) : ∀ (f : Nat) (l : List Tr), Tree.counts l < f → Tree.counts l ≤ 1000000 → ∀ (fr z : Nat), Tree.plcs s fr l = some z → ∀ (A : Option Addr) (c : Nat) (S : Nat → Prop) (w : World), Lies w S A l → (∀ g, S g → g < w.heap.size) →
    Calls Try.prog 23 #[.slice A l.length c, .string ⟨s.toArray⟩, .int .i64 (fr : Int)] w fun e w' => e = .returned (.tuple #[.int .i64 (z : Int), .bool true]) ∧ Below w.heap.size w w' := by
  intro f
  induction f with
  | zero => intro l h; omega
  | succ f ih =>
    intro l hf hct fr z hpl A c S w hl hS
    have hlen := Tree.len_le_counts l
    have HL := Lib.hid hl
    have HP := Lib.hid hpl
    clear hl hpl
    go_enter Try.func23, Try.ntmps23
    go_wp2
    go_loopw [2, 8] (fun fv i wr => ∃ j fr' : Nat, j ≤ l.length ∧ i = .int .i64 (j : Int) ∧ fv = .int .i64 (fr' : Int) ∧ Hid (Tree.plcs s fr' (l.drop j) = some z) ∧ Below w.heap.size w wr) (fun _ i _ => l.length - (intOf i).toNat)
    case atStart => exact ⟨0, fr, by omega, rfl, rfl, HP, Below.refl _ _⟩
    case round =>
      clear HP
      obtain ⟨j, fr', hj, rfl, rfl, HP, hb⟩ := hrel
      by_cases hjl : j < l.length
      · obtain ⟨g, o, rfl, hg, c0, c1, c2, A', c', c3, hl', -⟩ := HL.out.get j hjl
        have hsz := hb.size
        have hgl := hS _ hg
        have d0 := (hb.cell (p := ⟨g, o + j * 4, none⟩) hgl).trans c0
        have d1 := (hb.cell (p := ⟨g, o + j * 4 + 1, none⟩) hgl).trans c1
        have d2 := (hb.cell (p := ⟨g, o + j * 4 + 2, none⟩) hgl).trans c2
        have d3 := (hb.cell (p := ⟨g, o + j * 4 + 3, none⟩) hgl).trans c3
        have hi0 : (0 : Int) ≤ (j : Int) := Int.natCast_nonneg _
        have hi1 : (j : Int) < (l.length : Int) := by omega
        have htk := Tree.counts_take l j hjl
        have htl := Tree.counts_take_le l (j + 1)
        have hpl := HP.out
        rw [List.drop_eq_getElem_cons hjl] at hpl
        obtain ⟨m, hm⟩ : ∃ m, l[j] = m := ⟨_, rfl⟩
        rw [hm] at d0 d1 d2 d3 hl' htk hpl
        clear c0 c1 c2 c3 hm
        obtain ⟨mk, mp, mt, ml⟩ := m
        dsimp only [Tree.Tr.kind, Tree.Tr.pos, Tree.Tr.text, Tree.Tr.l] at d0 d1 d2 d3 hl'
        rw [Tree.count] at htk
        have q2 : Tree.counts ml < f := by omega
        have q3 : Tree.counts ml ≤ 1000000 := by omega
        obtain ⟨pn, m, rfl, hfp, hps, hrest, hcase⟩ := Tree.plcs_cons hpl
        have HR := Lib.hid hrest
        have e1 : decide ((pn : Int) < (fr' : Int)) = false := by simp; omega
        have e1n : decide (pn < fr') = false := by simp; omega
        have e2 : decide ((s.length : Int) ≤ (pn : Int)) = false := by simp; omega
        have e2n : decide (s.length ≤ pn) = false := by simp; omega
        have hpn : (0 : Int) ≤ (pn : Int) := Int.natCast_nonneg _
        have hpn2 : (pn : Int) < (s.length : Int) := by omega
        have hget : (ByteArray.mk s.toArray)[pn]'(by show pn < s.toArray.size; simpa using hps) = s.getD pn 0 := by rw [List.getD_eq_getElem?_getD, List.getElem?_eq_getElem hps]; rfl
        clear htk htl hpl hrest HP
        rcases hcase with ⟨rfl, hfit, htx, rfl⟩ | ⟨rfl, hch, rfl⟩ | ⟨hk2, hk3, hch, hkids⟩
        · clear hget
          have hsum : IntKind.i64.wrap ((pn : Int) + (mt.length : Int)) = (pn : Int) + (mt.length : Int) := IntWalk.i64_in _ (by omega)
          have hg1 : decide ((s.length : Int) < (pn : Int) + (mt.length : Int)) = false := by simp; omega
          go_wp2_with fail
          go_quiet (fail)
          go_wp2
          go_roundw
          case rel => exact ⟨j + 1, pn + 1, by omega, by go_num, by go_num, HR, below_drewN_ hb _⟩
          case measure => simp [intOf]; omega
        · rw [hch] at hget
          go_wp2
          go_roundw
          case rel => exact ⟨j + 1, pn + 1, by omega, by go_num, by go_num, HR, hb⟩
          case measure => simp [intOf]; omega
        · rw [hch] at hget
          have b2 : (mk == 2) = false := by simpa using hk2
          have b3 : (mk == 3) = false := by simpa using hk3
          have hcall := ih ml q2 q3 (pn + 1) m hkids A' c' S wr (hl'.keep (fun g hg => hb.block g (hS g hg)) (fun _ h => h)) (fun g hg => Nat.lt_of_lt_of_le (hS g hg) hb.size)
          rw [show ((pn + 1 : Nat) : Int) = (pn : Int) + 1 from by omega] at hcall
          have HC := Lib.hid hcall
          clear hcall hkids hk2 hk3
          go_wp2_with fail
          (with_reducible refine HC.out.mono ?_)
          rintro e w2 ⟨rfl, hb2⟩
          clear HC
          go_wp2
          go_roundw
          case rel => exact ⟨j + 1, m, by omega, by go_num, rfl, HR, hb.trans (hb2.mono hsz)⟩
          case measure => simp [intOf]; omega
      · obtain rfl : j = l.length := by omega
        have hz := HP.out
        rw [List.drop_length, Tree.plcs] at hz
        injection hz with hz
        subst hz
        go_wp2
        go_ret2
        exact ⟨rfl, hb⟩
end Go.Proofs.Ytnjhbhbohnjckaa
