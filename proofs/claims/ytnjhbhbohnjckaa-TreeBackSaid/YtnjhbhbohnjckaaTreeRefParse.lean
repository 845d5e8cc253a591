/-
  The walk of the reference's Parse.
-/
import Derived.Test.YtnjhbhbohnjckaaTreeRefRow
import Derived.Test.YtnjhbhbohnjckaaTreeParse
import Derived.Test.YtnjhbhbohnjckaaTokRefLex2
set_option linter.unusedVariables false
set_option linter.unusedSimpArgs false
namespace Go.Proofs.Ytnjhbhbohnjckaa
open Go.RowKit
open Tree (Tr)

set_option maxHeartbeats 4000000 in
set_option maxRecDepth 100000 in
theorem refParse_any (l : List UInt8) (w : World) (hl : l.length ≤ 10000000) : Calls Try.prog 10 #[.string ⟨l.toArray⟩] w (RetTree (Tree.parse l) w) := by
  have hlx := refLex_any l w (by omega)
  rcases hr : Tok.lexF l with ⟨L, p, er⟩
  rw [hr] at hlx
  by_cases he : er = 0
  · subst he
    obtain ⟨hE, h0, hLl, rfl⟩ := Tree.lexF_ends hr
    have HP := Lib.hid (Tree.lexF_ok hr)
    have HL := Lib.hid hlx
    clear hlx hr
    go_enter Try.func10, Try.ntmps10
    go_wp2_with fail
    refine HL.out.mono ?_
    rintro e w1 ⟨A1, c1, rfl, hown, hb⟩
    obtain ⟨g, rfl, _, hgl, _⟩ := own_tok hown 0 h0
    have hc1 := own_cap hown
    have hT : TokAt w1 g L := fun k hk => by
      obtain ⟨g', e, _, _, h1, h2, h3⟩ := own_tok hown k hk
      injection e with e; injection e with e _; subst e
      exact ⟨h1, h2, h3⟩
    have hN := refRow_any g c1 L hE (by omega) hc1.1 L.length 0 0 0 (by omega) h0 (by omega) w1 hT hgl
    rw [show ((0 : Nat) : Int) = 0 from rfl] at hN
    have HN := Lib.hid hN
    have hbs := hb.size
    clear hN HL hown hT
    go_wp2_with fail
    (with_reducible refine HN.out.mono ?_)
    rintro e w2 ⟨hb2, hm⟩
    have hb3 := hb.trans (hb2.mono hbs)
    have hs3 := hb2.size
    clear HN
    rcases hrw : Tree.row L L.length 0 0 0 [] with ⟨ns, j⟩ | ⟨pb, er⟩
    · rw [hrw] at hm
      obtain ⟨A2, c2, rfl, hl2, hc2, hm2⟩ := hm
      have HB := Lib.hid (HP.out.trans (congrArg Tree.Rw.out hrw))
      clear hrw
      go_wp2
      go_quiet (fail)
      go_wp2
      go_ret3
      refine ⟨A2, c2, ?_, ?_, ?_, hm2, below_drewN_ (hb3.alloc hb3.size _) _⟩
      · rw [HB.out]; rfl
      · rw [HB.out]
        refine hl2.keep (fun k hk => ?_) (fun k hk => ⟨by have := hk.1; omega, ?_⟩)
        · show (w2.alloc _).heap[k]? = _
          exact Below.heap_alloc _ _ _ hk.2
        · have := hk.2
          show k < (w2.alloc _).heap.size
          simp; omega
      · rw [HB.out]; exact hc2
    · rw [hrw] at hm
      obtain ⟨rfl, her⟩ := hm
      have HB := Lib.hid (HP.out.trans (congrArg Tree.Rw.out hrw))
      clear hrw her
      go_wp2
      go_quiet (fail)
      go_wp2
      go_ret3
      exact ⟨none, 0, by rw [HB.out]; rfl, by rw [HB.out]; exact Lies.nil_ _ _ _, by rw [HB.out]; exact Nat.zero_le _, Nat.zero_le _, below_drewN_ (hb3.alloc hb3.size _) _⟩
  · have HP := Lib.hid (Tree.lexF_err hr he)
    have HL := Lib.hid hlx
    have g3 : (er != 0) = true := by simpa using he
    clear hlx hr he
    go_enter Try.func10, Try.ntmps10
    go_wp2_with fail
    refine HL.out.mono ?_
    rintro e w1 ⟨A1, c1, rfl, hown, hb⟩
    clear HL hown
    go_wp2
    go_ret3
    exact ⟨none, 0, by rw [HP.out]; rfl, by rw [HP.out]; exact Lies.nil_ _ _ _, by rw [HP.out]; exact Nat.zero_le _, Nat.zero_le _, hb⟩
end Go.Proofs.Ytnjhbhbohnjckaa
