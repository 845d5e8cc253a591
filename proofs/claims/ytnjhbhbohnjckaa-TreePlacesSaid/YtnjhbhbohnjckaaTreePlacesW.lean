/-
  The walk of the law TreePlaces.
-/
import Derived.Test.YtnjhbhbohnjckaaTreeAlive
import Derived.Test.YtnjhbhbohnjckaaTreePlacesC
import Derived.Test.YtnjhbhbohnjckaaTreeMore
set_option linter.unusedVariables false
set_option linter.unusedSimpArgs false
namespace Go.Proofs.Ytnjhbhbohnjckaa
open Go.RowKit
open Tree (Tr)

theorem bytes_app (l m : List UInt8) : (⟨l.toArray⟩ : ByteArray) ++ ⟨m.toArray⟩ = ⟨(l ++ m).toArray⟩ := by
  apply ByteArray.ext
  rw [ByteArray.data_append]
  apply Array.ext'
  simp

set_option maxHeartbeats 4000000 in
set_option maxRecDepth 100000 in
theorem treePlaces_walk (l : List UInt8) (w : World) (hl : l.length ≤ 9223372036854775807) :
    Calls Try.prog 7 #[.string ⟨l.toArray⟩] w fun e w' => e = .returned (.bool true) ∧ Below w.heap.size w w' := by
  by_cases h1 : 1000 < l.length
  · go_enter Try.func7, Try.ntmps7
    go_wp2_with (go_at_call 8; refine (alive_any _).mono ?_; rintro e w1 ⟨rfl, hb⟩)
    go_ret
    exact ⟨rfl, hb⟩
  have g1 : decide ((1000 : Int) < (l.length : Int)) = false := by simp; omega
  have hl' : l.length ≤ 1000 := by omega
  clear hl h1
  rcases hx : Tree.parse l with ⟨L, a, er⟩
  have hsm := Tree.parse_small hx
  have hcn := hsm.counts
  have HP := Lib.hid (fun w => parse_any l w (by omega))
  rw [hx] at HP
  by_cases he : er = 0
  rotate_left
  · have g3 : (er != 0) = true := by simpa using he
    clear hx he hsm
    go_enter Try.func7, Try.ntmps7
    go_wp2_with fail
    refine (HP.out _).mono ?_
    rintro e w1 ⟨A1, c1, rfl, hl1, hc1, hm1, hb1⟩
    dsimp only at hl1 hc1 ⊢
    clear HP
    go_wp2_with (go_at_call 8; refine (alive_any _).mono ?_; rintro e w5 ⟨rfl, hb7⟩)
    go_ret
    exact ⟨rfl, hb1.trans (hb7.mono hb1.size)⟩
  subst he
  obtain ⟨z, hz⟩ := Tree.parse_places hx
  have HA := Lib.hid (Tree.parse_close hl' hx)
  have HB := Lib.hid (Tree.parse_again hl' hx)
  have HZ := Lib.hid hz
  have hA : (⟨l.toArray⟩ : ByteArray) ++ ⟨#[10, 41]⟩ = ⟨(l ++ [10, 41]).toArray⟩ := bytes_app l [10, 41]
  have hB : (⟨l.toArray⟩ : ByteArray) ++ ⟨#[10, 40]⟩ = ⟨(l ++ [10, 40]).toArray⟩ := bytes_app l [10, 40]
  have HA2 := Lib.hid hA
  have HB2 := Lib.hid hB
  have HPA : Hid (∀ w, Calls Try.prog 9 #[.string ((⟨l.toArray⟩ : ByteArray) ++ ⟨#[10, 41]⟩)] w (RetTree ([], l.length + 1, 4) w)) := fun w => by
    rw [HA2.out, ← HA.out]; exact parse_any (l ++ [10, 41]) w (by simp; omega)
  have HPB : Hid (∀ w, Calls Try.prog 9 #[.string ((⟨l.toArray⟩ : ByteArray) ++ ⟨#[10, 40]⟩)] w (RetTree ([], l.length + 1, 3) w)) := fun w => by
    rw [HB2.out, ← HB.out]; exact parse_any (l ++ [10, 40]) w (by simp; omega)
  clear hx hz hA hB hsm HA HB HA2 HB2
  go_enter Try.func7, Try.ntmps7
  go_wp2_with fail
  refine (HP.out _).mono ?_
  rintro e w1 ⟨A1, c1, rfl, hl1, hc1, hm1, hb1⟩
  dsimp only at hl1 hc1 ⊢
  have s1 := hb1.size
  have HC := Lib.hid (places_any l hl' (Tree.counts L + 1) L (by omega) (by omega) 0 z HZ.out A1 c1 _ _ hl1 (fun g hg => hg.2))
  rw [show ((0 : Nat) : Int) = 0 from rfl] at HC
  clear hl1 HP
  go_wp2_with fail
  (with_reducible refine HC.out.mono ?_)
  rintro e w2 ⟨rfl, hb2⟩
  clear HC
  go_wp2_with fail
  (with_reducible refine (HPA.out _).mono ?_)
  rintro e w3 ⟨A3, c3, rfl, hl3, hc3, hm3, hb3⟩
  dsimp only [List.length_nil] at hc3 ⊢
  clear hl3 HPA
  go_wp2_with fail
  (with_reducible refine (HPB.out _).mono ?_)
  rintro e w4 ⟨A4, c4, rfl, hl4, hc4, hm4, hb4⟩
  dsimp only [List.length_nil] at hc4 ⊢
  have s2 := hb2.size
  have s3 := hb3.size
  have hb5 := ((hb1.trans (hb2.mono s1)).trans (hb3.mono (by omega))).trans (hb4.mono (by omega))
  clear hl4 HPB hb1 hb2 hb3 hb4
  go_wp2_with (go_at_call 8; (with_reducible refine (alive_any _).mono ?_); rintro e w5 ⟨rfl, hb7⟩)
  go_ret
  exact ⟨rfl, hb5.trans (hb7.mono hb5.size)⟩
end Go.Proofs.Ytnjhbhbohnjckaa
