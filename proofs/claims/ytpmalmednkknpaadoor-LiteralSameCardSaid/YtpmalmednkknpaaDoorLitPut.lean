/-
  utf.Put and the reference's Put of one rune.
-/
import Derived.Test.YtpmalmednkknpaaDoorLitQ
import Derived.Test.YtpmalmednkknpaaDoorShelf
import Derived.Lib.RuneBytes
set_option linter.unusedVariables false
namespace Go.Proofs.YtpmalmednkknpaaDoor
open Go.RowKit

theorem runeCells_rb (r : Int) : Lib.runeCells r = rb (Lib.encodeRune r) := by
  rw [← Lib.byteCells_encodeRune]; rfl
theorem encodeRune_le (r : Int) : 1 ≤ (Lib.encodeRune r).length ∧ (Lib.encodeRune r).length ≤ 4 := by
  have := Lib.runeCells_le r
  rwa [Lib.runeCells_length] at this

/-- AppendRune onto a row of the call's own. -/
theorem appendRune_at (B : Nat) (v : Value) (n : Nat) (l : List UInt8) (hn : l.length = n) (r : Int) (hr0 : -2147483648 ≤ r) (hr1 : r ≤ 2147483647) (w : World) (hown : w.ownsRow B 5 1 v n (rb l)) (hlen : n ≤ 1000000000) (hB : B ≤ w.heap.size) :
    Calls Tryd.prog 42 #[v, .int .i32 r] w fun e w' => ∃ A c m, e = .returned (.slice A m c) ∧ (l ++ Lib.encodeRune r).length = m ∧ w'.ownsRow B 5 1 (.slice A m c) m (rb (l ++ Lib.encodeRune r)) ∧ w.grownBy w' v.ownBlock := by
  refine (Tryd.utf8_AppendRune_plain B v n (rb l) r hr0 hr1 w hown (by omega) hB).mono ?_
  rintro e w' ⟨v', rfl, h1, o, h2⟩
  have e1 : n + (Lib.runeCells r).length = (l ++ Lib.encodeRune r).length := by rw [Lib.runeCells_length, List.length_append, hn]
  rw [e1, runeCells_rb, ← rb_append] at h1
  obtain ⟨A, c, rfl, _, _⟩ := own_slice h1
  exact ⟨A, c, _, rfl, rfl, h1, grown_alloc_first h2⟩

/-- What Put returns of one rune. -/
def RetPut (n : Int) (w : World) (e : Ending) (w' : World) : Prop :=
  e = .returned (.tuple #[.string ⟨(if Lib.validRune n then Lib.encodeRune n else []).toArray⟩, .bool (Lib.validRune n)]) ∧ Below w.heap.size w w'

set_option maxHeartbeats 1000000 in
set_option maxRecDepth 100000 in
theorem put_one (n : Int) (h0 : 0 ≤ n) (h1 : n ≤ 2147483647) (ad : Addr) (c : Nat) (w : World) (hcell : w.cell? ad = some (.int .i32 n)) (hb : ad.block < w.heap.size) :
    Calls Tryd.prog 41 #[.slice (some ad) 1 c] w (RetPut n w) := by
  have hv : ∀ W : World, Calls Tryd.prog 48 #[.int .i32 n] W fun e w' => e = .returned (.bool (Lib.validRune n)) ∧ W = w' := fun W => (Tryd.utf8_ValidRune n W).mono fun _ _ ⟨h, h'⟩ => ⟨h, h'.symm⟩
  have hnil : w.ownsRow w.heap.size 5 1 (.slice none 0 0) 0 (rb []) := World.ownsRow_nil _ _ _ _
  have hA := appendRune_at w.heap.size _ 0 [] rfl n (by omega) h1 w hnil (by omega) (Nat.le_refl _)
  have hz : ad.add 0 = ad := by simp [Addr.add]
  unfold RetPut
  obtain ⟨E, hE⟩ : ∃ E, Lib.encodeRune n = E := ⟨_, rfl⟩
  rw [hE] at hA ⊢
  rw [List.nil_append] at hA
  cases hval : Lib.validRune n with
  | false =>
    rw [hval] at hv
    have HV := Lib.hid hv
    clear hv hA hE hval
    go_enter Tryd.func41, Tryd.ntmps41
    go_wp2_with fail
    go_loopw [4, 9] (fun v i wr => i = .int .i64 0 ∧ wr = w) (fun _ i _ => 1 - (intOf i).toNat)
    case atStart => exact ⟨rfl, rfl⟩
    case round =>
      obtain ⟨rfl, rfl⟩ := hrel
      go_wp2_with (go_at_call 48; refine (HV.out _).mono ?_; rintro e w1 ⟨rfl, rfl⟩)
      go_ret2
      exact ⟨rfl, Below.refl _ _⟩
  | true =>
    rw [hval] at hv
    have HV := Lib.hid hv
    have HA := Lib.hid hA
    clear hv hA hE hval
    go_enter Tryd.func41, Tryd.ntmps41
    go_wp2_with fail
    go_loopw [4, 9] (fun v i wr => (i = .int .i64 0 ∧ v = .slice none 0 0 ∧ wr = w) ∨ (i = .int .i64 1 ∧ ∃ A c m, v = .slice A m c ∧ E.length = m ∧ wr.ownsRow w.heap.size 5 1 v m (rb E) ∧ Below w.heap.size w wr)) (fun _ i _ => 1 - (intOf i).toNat)
    case atStart => exact .inl ⟨rfl, rfl, rfl⟩
    case round =>
      rcases hrel with ⟨rfl, rfl, rfl⟩ | ⟨rfl, A, c2, m, rfl, hm, hown, hbel⟩
      · go_wp2_with (first
          | (go_at_call 48; refine (HV.out _).mono ?_; rintro e w1 ⟨rfl, rfl⟩)
          | (go_at_call 42; refine HA.out.mono ?_; rintro e w1 ⟨A, c2, m, rfl, hm, hown, hg⟩))
        have hbel : Below wr.heap.size wr w1 := below_own hnil hg (Nat.le_refl _)
        have HM := Lib.hid hm
        clear hm hg
        go_roundw
        case rel => exact .inr ⟨rfl, A, c2, m, rfl, HM.out, hown, hbel⟩
        case measure => simp [intOf]
      · obtain ⟨hrd, hlen⟩ := own_rd hown
        have hcv := str_n hrd hlen c2
        have HM := Lib.hid hm
        clear hm hlen
        go_wp2
        go_ret2
        exact ⟨rfl, hbel⟩
end Go.Proofs.YtpmalmednkknpaaDoor
