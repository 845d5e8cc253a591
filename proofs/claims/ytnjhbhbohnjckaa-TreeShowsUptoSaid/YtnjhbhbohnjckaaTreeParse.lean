/-
  The walk of tree.Parse.
-/
import Derived.Test.YtnjhbhbohnjckaaTreeNodes
import Derived.Test.YtnjhbhbohnjckaaTreeEnds
import Derived.Test.YtnjhbhbohnjckaaTokOurs
import Derived.Laws.EntriesVeiled
import Derived.Deep.QuietTactic
import Derived.BigQuiet
set_option linter.unusedVariables false
set_option linter.unusedSimpArgs false
namespace Go.Proofs.Ytnjhbhbohnjckaa
open Go.RowKit
open Tree (Tr)

theorem below_drewN_ {B : Nat} {w W : World} (h : Below B w W) (q : Nat) : Below B w (W.drewN q) := ⟨h.os, h.tape, h.output, h.size, h.block⟩
/-- What Parse returns. -/
def RetTree (r : List Tr × Nat × Int) (w : World) (e : Ending) (w' : World) : Prop :=
  ∃ A c, e = .returned (.tuple #[.slice A r.1.length c, .int .i64 (r.2.1 : Int), .int .i64 r.2.2]) ∧ Lies w' (Fresh w.heap.size w') A r.1 ∧ r.1.length ≤ c ∧ c ≤ maxLen ∧ Below w.heap.size w w'

def Start (w : World) (b gT cT : Nat) (L : List Tok.Tk) (w' : World) : Prop := Env w' b gT cT L 0 0 0 ∧ Below w.heap.size w w' ∧ w.heap.size ≤ b

theorem env_start {w w1 : World} {g c : Nat} {L : List Tok.Tk} (hown : w1.ownsRow w.heap.size 55 3 (.slice (some ⟨g, 0, none⟩) L.length c) L.length (toks L)) (hL : 0 < L.length) (hb : Below w.heap.size w w1) :
    Start w w1.heap.size g c L ((((((w1.alloc (.cells #[.slice (some ⟨g, 0, none⟩) L.length c] 49)).alloc (.cells #[.int .i64 0] 3)).alloc (.cells #[.int .i64 0] 3)).alloc (.cells #[.int .i64 0] 24)).alloc (.cells #[.func (.func 25) #[] #[.pointer (some ⟨w1.heap.size + 3, 0, none⟩), .pointer (some ⟨w1.heap.size + 2, 0, none⟩)]] 52)).alloc (.cells #[.func (.func 26) #[] #[.pointer (some ⟨w1.heap.size + 3, 0, none⟩), .pointer (some ⟨w1.heap.size, 0, none⟩), .pointer (some ⟨w1.heap.size + 1, 0, none⟩), .pointer (some ⟨w1.heap.size + 4, 0, none⟩), .pointer (some ⟨w1.heap.size + 5, 0, none⟩)]] 53)) := by
  have hs := hb.size
  have hlt : g < w1.heap.size := by
    obtain ⟨g', e, _, h, _⟩ := own_tok hown 0 hL
    injection e with e; injection e with e _; omega
  have n0 := fun (W : World) cs e => Var.new W cs e
  refine ⟨⟨?_, ?_, ?_, ?_, ?_, ?_, hlt, fun k hk => ?_⟩, ?_, hs⟩
  · exact (((((Var.new w1 _ _).alloc _).alloc _).alloc _).alloc _).alloc _
  · exact ((((show Var _ (w1.heap.size + 1) _ _ from by have := Var.new (w1.alloc (.cells #[.slice (some ⟨g, 0, none⟩) L.length c] 49)) #[.int .i64 0] 3; simpa using this).alloc _).alloc _).alloc _).alloc _
  · exact (((show Var _ (w1.heap.size + 2) _ _ from by have := Var.new ((w1.alloc (.cells #[.slice (some ⟨g, 0, none⟩) L.length c] 49)).alloc (.cells #[.int .i64 0] 3)) #[.int .i64 0] 3; simpa using this).alloc _).alloc _).alloc _
  · exact ((show Var _ (w1.heap.size + 3) _ _ from by have := Var.new (((w1.alloc (.cells #[.slice (some ⟨g, 0, none⟩) L.length c] 49)).alloc (.cells #[.int .i64 0] 3)).alloc (.cells #[.int .i64 0] 3)) #[.int .i64 0] 24; simpa using this).alloc _).alloc _
  · refine Var.alloc ?_ _
    generalize hW : (((w1.alloc (.cells #[.slice (some ⟨g, 0, none⟩) L.length c] 49)).alloc (.cells #[.int .i64 0] 3)).alloc (.cells #[.int .i64 0] 3)).alloc (.cells #[.int .i64 0] 24) = W
    have e : W.heap.size = w1.heap.size + 4 := by rw [← hW]; simp
    rw [← e]; exact Var.new _ _ _
  · generalize hW : ((((w1.alloc (.cells #[.slice (some ⟨g, 0, none⟩) L.length c] 49)).alloc (.cells #[.int .i64 0] 3)).alloc (.cells #[.int .i64 0] 3)).alloc (.cells #[.int .i64 0] 24)).alloc _ = W
    have e : W.heap.size = w1.heap.size + 5 := by rw [← hW]; simp
    rw [← e]; exact Var.new _ _ _
  · obtain ⟨g', e, _, _, h1, h2, h3⟩ := own_tok hown k hk
    injection e with e; injection e with e _; subst e
    have hb' : Below w1.heap.size w1 ((((((w1.alloc (.cells #[.slice (some ⟨g, 0, none⟩) L.length c] 49)).alloc (.cells #[.int .i64 0] 3)).alloc (.cells #[.int .i64 0] 3)).alloc (.cells #[.int .i64 0] 24)).alloc (.cells #[.func (.func 25) #[] #[.pointer (some ⟨w1.heap.size + 3, 0, none⟩), .pointer (some ⟨w1.heap.size + 2, 0, none⟩)]] 52)).alloc (.cells #[.func (.func 26) #[] #[.pointer (some ⟨w1.heap.size + 3, 0, none⟩), .pointer (some ⟨w1.heap.size, 0, none⟩), .pointer (some ⟨w1.heap.size + 1, 0, none⟩), .pointer (some ⟨w1.heap.size + 4, 0, none⟩), .pointer (some ⟨w1.heap.size + 5, 0, none⟩)]] 53)) :=
      ((((((Below.refl _ _).alloc (Nat.le_refl _) _).alloc (by simp) _).alloc (by simp; omega) _).alloc (by simp; omega) _).alloc (by simp; omega) _).alloc (by simp; omega) _
    exact ⟨(hb'.cell (p := ⟨g, k * 3, none⟩) hlt).trans h1, (hb'.cell (p := ⟨g, k * 3 + 1, none⟩) hlt).trans h2, (hb'.cell (p := ⟨g, k * 3 + 2, none⟩) hlt).trans h3⟩
  · exact ((((((hb.alloc hs _).alloc (by simp; omega) _).alloc (by simp; omega) _).alloc (by simp; omega) _).alloc (by simp; omega) _).alloc (by simp; omega) _)

set_option maxHeartbeats 4000000 in
set_option maxRecDepth 100000 in
theorem parse_any (l : List UInt8) (w : World) (hl : l.length ≤ 10000000) : Calls Try.prog 9 #[.string ⟨l.toArray⟩] w (RetTree (Tree.parse l) w) := by
  have hlx := lex_any l w (by omega)
  rcases hr : Tok.lexF l with ⟨L, p, er⟩
  rw [hr] at hlx
  by_cases he : er = 0
  · subst he
    obtain ⟨hE, h0, hLl, rfl⟩ := Tree.lexF_ends hr
    have HP := Lib.hid (Tree.lexF_ok hr)
    have HL := Lib.hid hlx
    clear hlx hr
    go_enter Try.func9, Try.ntmps9
    go_wp2_with fail
    refine HL.out.mono ?_
    rintro e w1 ⟨A1, c1, rfl, hown, hb⟩
    obtain ⟨g, rfl, _, _, _⟩ := own_tok hown 0 h0
    have hc1 := own_cap hown
    have hst := Lib.hid (env_start hown h0 hb)
    clear HL hown hb
    go_wp2_with fail
    simp only [Nat.add_assoc, Nat.reduceAdd]
    refine at_world (F := Start w w1.heap.size g c1 L) hst.out ?_
    rintro w2 ⟨henv, hb2, hbb⟩
    clear hst
    have hN := nodes_any w1.heap.size g c1 L hE (by omega) hc1.1 L.length 0 0 0 (by omega) h0 (by omega) 0 w2 henv
    rw [show ((0 : Nat) : Int) = 0 from rfl] at hN
    have HN := Lib.hid hN
    clear hN
    have hsz := henv.size
    clear henv
    (with_reducible refine HN.out.mono ?_)
    rintro e w3 ⟨nx, bd, wg, henv3, hf3, hm⟩
    have q2 := henv3.bad.cells 0
    have q3 := henv3.wrong.cells 0
    simp only [List.getElem?_toArray, List.getElem?_cons_zero] at q2 q3
    have hb3 : Below w.heap.size w w3 := hb2.trans (hf3.bel.mono hbb)
    have hs3 := hf3.bel.size
    clear HN henv3
    rcases hrw : Tree.row L L.length 0 0 0 [] with ⟨ns, j⟩ | ⟨pb, er⟩
    · rw [hrw] at hm
      obtain ⟨A2, c2, rfl, hl2, hc2, hm2, rfl, -⟩ := hm
      have HB := Lib.hid (HP.out.trans (congrArg Tree.Rw.out hrw))
      clear hrw
      go_wp2
      go_ret3
      refine ⟨A2, c2, ?_, ?_, ?_, hm2, hb3⟩
      · rw [HB.out]; rfl
      · rw [HB.out]; exact hl2.keep (fun _ _ => rfl) (fun k hk => ⟨by have := hk.1; have := hb2.size; omega, hk.2⟩)
      · rw [HB.out]; exact hc2
    · rw [hrw] at hm
      obtain ⟨rfl, rfl, rfl, her⟩ := hm
      have HB := Lib.hid (HP.out.trans (congrArg Tree.Rw.out hrw))
      have g3 : (wg != 0) = true := by simpa using her
      clear hrw her
      go_wp2
      go_quiet (fail)
      go_wp2
      go_ret3
      exact ⟨none, 0, by rw [HB.out]; rfl, by rw [HB.out]; exact Lies.nil_ _ _ _, by rw [HB.out]; exact Nat.zero_le _, Nat.zero_le _, below_drewN_ hb3 _⟩
  · have HP := Lib.hid (Tree.lexF_err hr he)
    have HL := Lib.hid hlx
    have g3 : (er != 0) = true := by simpa using he
    clear hlx hr he
    go_enter Try.func9, Try.ntmps9
    go_wp2_with fail
    refine HL.out.mono ?_
    rintro e w1 ⟨A1, c1, rfl, hown, hb⟩
    clear HL hown
    go_wp2
    go_ret3
    exact ⟨none, 0, by rw [HP.out]; rfl, by rw [HP.out]; exact Lies.nil_ _ _ _, by rw [HP.out]; exact Nat.zero_le _, Nat.zero_le _, hb.alloc hb.size _⟩
end Go.Proofs.Ytnjhbhbohnjckaa
