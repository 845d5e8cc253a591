/-
  The law's alive: the chapter's examples.
-/
import Derived.Test.YtpmalmednkknpaaDoorLitUnq
import Derived.Test.YtpmalmednkknpaaDoorLitRText
import Derived.Test.YtpmalmednkknpaaDoorLitName
set_option linter.unusedVariables false
namespace Go.Proofs.YtpmalmednkknpaaDoor
open Go.RowKit
attribute [local go_sem] ByteArray.extract_mk

theorem al_unq : Ltr.unquote [34, 92, 117, 123, 101, 52, 125, 92, 116, 34] = ([195, 164, 9], 0) := by decide +kernel
theorem al_num : Ltr.numF [49, 95, 48, 48, 48] 16 = (1000, 0) := by decide +kernel
theorem al_nat : Ltr.natF [48, 49, 48] 10 = (10, 0) := by decide +kernel
theorem al_quote : Ltr.quote [97, 34, 10, 255] = [34, 97, 92, 50, 50, 92, 48, 97, 92, 102, 102, 34] := by decide +kernel
theorem al_sx : Ltr.sx 4294967295 32 = -1 := by decide +kernel
theorem al_text : Ltr.textF 4294967295 32 = [45, 49] := by
  unfold Ltr.textF
  rw [if_neg (by decide), show (32 : Int).toNat = 32 from rfl, al_sx]
  unfold Lib.itoa
  rw [show (-1 : Int).natAbs = 1 from rfl, Lib.decDigits_one (by decide)]
  rfl
theorem al_name1 : Ltr.name [36, 97] = true := by decide +kernel
theorem al_name2 : Ltr.name [36] = false := by decide +kernel

set_option maxHeartbeats 2000000 in
set_option maxRecDepth 100000 in
theorem alive_any (w : World) (ht : Tab w) : Calls Tryd.prog 11 #[] w fun e w' => e = .returned (.bool true) ∧ Below w.heap.size w w' := by
  have H1 := Lib.hid (unquote_any [34, 92, 117, 123, 101, 52, 125, 92, 116, 34] w (by decide))
  rw [al_unq] at H1
  have H2 : Hid (∀ W, Calls Tryd.prog 16 #[.string ⟨[49, 95, 48, 48, 48].toArray⟩, .int .i64 16] W (RetN (1000, 0) W)) := Lib.hid (fun W => by have := num_any [49, 95, 48, 48, 48] 16 W (by decide); rw [al_num] at this; exact this)
  have H3 : Hid (∀ W, Calls Tryd.prog 18 #[.string ⟨[48, 49, 48].toArray⟩, .int .i64 10] W fun e w' => e = .returned (.tuple #[.int .i64 10, .int .i64 0]) ∧ ∃ q, w' = W.drewN q) := Lib.hid (fun W => by have := lnat_any [48, 49, 48] 10 W (by decide) (by decide); rw [al_nat] at this; exact this)
  have H4 : Hid (∀ (W : World), Calls Tryd.prog 14 #[.slice (some ⟨W.heap.size, 0, none⟩) 4 4] (W.alloc (.cells #[.int .u8 97, .int .u8 34, .int .u8 10, .int .u8 255] 5)) fun e w' => e = .returned (.string ⟨#[34, 97, 92, 50, 50, 92, 48, 97, 92, 102, 102, 34]⟩) ∧ Below (W.alloc (.cells #[.int .u8 97, .int .u8 34, .int .u8 10, .int .u8 255] 5)).heap.size (W.alloc (.cells #[.int .u8 97, .int .u8 34, .int .u8 10, .int .u8 255] 5)) w') := Lib.hid (fun W => by
    have := quote_any (some ⟨W.heap.size, 0, none⟩) 4 [97, 34, 10, 255] (W.alloc (.cells #[.int .u8 97, .int .u8 34, .int .u8 10, .int .u8 255] 5)) ⟨rfl, fun _ => ⟨_, rfl, (by show W.heap.size < (W.heap.push _).size; rw [Array.size_push]; omega), fun j u hj => World.news_of_block (heap_alloc_new W _) j u hj⟩⟩ (by decide)
    rw [al_quote] at this
    exact this)
  have H5 : Hid (∀ W, Tab W → Calls Tryd.prog 20 #[.int .u64 4294967295, .int .i64 32] W _) := Lib.hid (fun W h => text_any 4294967295 (by decide) 32 W h)
  rw [al_text] at H5
  have H6 : Hid (∀ (l : List UInt8) W, l.length ≤ 10 → Calls Tryd.prog 22 #[.string ⟨l.toArray⟩] W fun e w' => e = .returned (.bool (Ltr.name l)) ∧ W = w') := Lib.hid (fun l W h => lname_any l W (by omega))
  go_enter Tryd.func11, Tryd.ntmps11
  go_wp2_with (first
    | (go_at_call 12; refine H1.out.mono ?_; rintro e w1 ⟨A, m, c, rfl, hm, hrd, hb1⟩; have hsz1 := hb1.size)
    | (go_at_call 16; refine (H2.out _).mono ?_; rintro e w2 ⟨rfl, q2, rfl⟩)
    | (go_at_call 18; refine (H3.out _).mono ?_; rintro e w3 ⟨rfl, q3, rfl⟩)
    | (go_at_call 14; go_loud (refine (H4.out _).mono ?_; rintro e w4 ⟨rfl, hb4⟩; have hb4' : Below w1.heap.size w1 w4 := ((below_drewN w1 (q2 + q3)).alloc (Nat.le_refl _) (.cells #[.int .u8 97, .int .u8 34, .int .u8 10, .int .u8 255] 5)).trans (hb4.mono (by show w1.heap.size ≤ (w1.heap.push _).size; rw [Array.size_push]; omega)); have hcv := str_n (Reads.below hrd hb4') hm c; have ht4 : Tab w4 := ht.below (hb1.trans (hb4'.mono hsz1))))
    | (go_at_call 20; (refine (H5.out _ ht4).mono ?_; rintro e w5 ⟨rfl, hb5⟩))
    | (go_at_call 22; refine (H6.out _ _ (by simp)).mono ?_; rintro e w6 ⟨rfl, rfl⟩; simp only [al_name1, al_name2]))
  go_ret
  exact ⟨rfl, hb1.trans ((hb4'.mono hsz1).trans (hb5.mono (by have := hb4'.size; omega)))⟩
end Go.Proofs.YtpmalmednkknpaaDoor
