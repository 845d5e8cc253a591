/-
  The reference's Is, bytes and Put of one rune.
-/
import Derived.Test.YtpmalmednkknpaaDoorLitPut
set_option linter.unusedVariables false
namespace Go.Proofs.YtpmalmednkknpaaDoor
open Go.RowKit

set_option maxHeartbeats 1000000 in
set_option maxRecDepth 100000 in
theorem ris_any (n : Int) (h0 : 0 ≤ n) (w : World) : Calls Tryd.prog 50 #[.int .i64 n] w fun e w' => e = .returned (.bool (Lib.validRune n)) ∧ w = w' := by
  have d0 : decide (0 ≤ n) = true := by simpa using h0
  unfold Lib.validRune
  by_cases h1 : n < 55296
  · have d1 : decide (n < 55296) = true := by simpa using h1
    have e : decide ((0 ≤ n ∧ n < 0xD800) ∨ (0xDFFF < n ∧ n ≤ 0x10FFFF)) = true := by simp; omega
    rw [e]
    clear e
    go_enter Tryd.func50, Tryd.ntmps50
    go_wp2
    go_ret
    exact ⟨rfl, rfl⟩
  · have d1 : decide (n < 55296) = false := by simpa using h1
    by_cases h2 : 57343 < n
    · have d2 : decide (57343 < n) = true := by simpa using h2
      by_cases h3 : n ≤ 1114111
      · have d3 : decide (n ≤ 1114111) = true := by simpa using h3
        have e : decide ((0 ≤ n ∧ n < 0xD800) ∨ (0xDFFF < n ∧ n ≤ 0x10FFFF)) = true := by simp; omega
        rw [e]
        clear e
        go_enter Tryd.func50, Tryd.ntmps50
        go_wp2
        go_ret
        exact ⟨rfl, rfl⟩
      · have d3 : decide (n ≤ 1114111) = false := by simpa using h3
        have e : decide ((0 ≤ n ∧ n < 0xD800) ∨ (0xDFFF < n ∧ n ≤ 0x10FFFF)) = false := by simp; omega
        rw [e]
        clear e
        go_enter Tryd.func50, Tryd.ntmps50
        go_wp2
        go_ret
        exact ⟨rfl, rfl⟩
    · have d2 : decide (57343 < n) = false := by simpa using h2
      have e : decide ((0 ≤ n ∧ n < 0xD800) ∨ (0xDFFF < n ∧ n ≤ 0x10FFFF)) = false := by simp; omega
      rw [e]
      clear e
      go_enter Tryd.func50, Tryd.ntmps50
      go_wp2
      go_ret
      exact ⟨rfl, rfl⟩

/-- A new slice of these bytes. -/
def RetNew (E : List UInt8) (w : World) (e : Ending) (w' : World) : Prop := ∃ A m c, e = .returned (.slice A m c) ∧ E.length = m ∧ RdB w' w'.heap.size A E ∧ Below w.heap.size w w'
theorem retNew_mk {w : World} {E : List UInt8} (l : List Int) (hE : E.map (fun u => (u.toNat : Int)) = l) (cs : Array Value) (hc : cs = (l.map (Value.int .u8)).toArray) (n : Nat) (hn : l.length = n) : RetNew E w (.returned (.slice (some ⟨w.heap.size, 0, none⟩) n n)) (w.alloc (.cells cs 5)) := by
  subst hc hE hn
  have hl : (E.map (fun u => (u.toNat : Int))).length = E.length := by simp
  refine ⟨_, _, _, rfl, hl.symm, ?_, (Below.refl _ _).alloc (Nat.le_refl _) _⟩
  refine ⟨by simp [rb], fun _ => ⟨_, rfl, by simp, fun j u hj => World.news_of_block (heap_alloc_new w _) j u ?_⟩⟩
  rw [← hj]
  simp [rb, Function.comp_def]
  rfl
theorem enc_ints (r : Int) : (Lib.encodeRune r).map (fun u => (u.toNat : Int)) = Lib.encodeRuneZ r := by
  unfold Lib.encodeRune
  rw [List.map_map]
  have : ∀ x ∈ Lib.encodeRuneZ r, ((fun u : UInt8 => (u.toNat : Int)) ∘ fun x : Int => x.toNat.toUInt8) x = x := by
    intro x hx
    have := Lib.encodeRuneZ_byte r x hx
    simp
    omega
  rw [List.map_congr_left this]
  simp

set_option maxHeartbeats 1000000 in
set_option maxRecDepth 100000 in
theorem rbytes_any (n : Int) (h : Lib.validRune n = true) (w : World) : Calls Tryd.prog 51 #[.int .i64 n] w (RetNew (Lib.encodeRune n) w) := by
  have hv : (0 ≤ n ∧ n < 55296) ∨ (57343 < n ∧ n ≤ 1114111) := by simpa [Lib.validRune] using h
  have hz := enc_ints n
  have n0 : 0 ≤ n := by omega
  have n9 : n ≤ 1114111 := by omega
  by_cases h1 : n < 128
  · rw [Lib.encodeRuneZ_one n0 (by omega)] at hz
    have d1 : decide (n < 128) = true := by simpa using h1
    have w1 : IntKind.u8.wrap n = n := by rw [IntKind.wrap_u8]; omega
    have HZ := Lib.hid hz
    clear hz h hv
    go_enter Tryd.func51, Tryd.ntmps51
    go_wp2
    go_ret
    exact retNew_mk _ HZ.out _ rfl _ rfl
  · have d1 : decide (n < 128) = false := by simpa using h1
    by_cases h2 : n < 2048
    · rw [Lib.encodeRuneZ_two (by omega) (by omega)] at hz
      have d2 : decide (n < 2048) = true := by simpa using h2
      have w1 : IntKind.u8.wrap (192 + n / 64) = 192 + n / 64 := by rw [IntKind.wrap_u8]; omega
      have w2 : IntKind.u8.wrap (128 + n % 64) = 128 + n % 64 := by rw [IntKind.wrap_u8]; omega
      have HZ := Lib.hid hz
      clear hz h hv
      go_enter Tryd.func51, Tryd.ntmps51
      go_wp2
      go_ret
      exact retNew_mk _ HZ.out _ rfl _ rfl
    · have d2 : decide (n < 2048) = false := by simpa using h2
      by_cases h3 : n < 65536
      · rw [Lib.encodeRuneZ_three (by omega)] at hz
        have d3 : decide (n < 65536) = true := by simpa using h3
        have w1 : IntKind.u8.wrap (224 + n / 4096) = 224 + n / 4096 := by rw [IntKind.wrap_u8]; omega
        have w2 : IntKind.u8.wrap (128 + n / 64 % 64) = 128 + n / 64 % 64 := by rw [IntKind.wrap_u8]; omega
        have w3 : IntKind.u8.wrap (128 + n % 64) = 128 + n % 64 := by rw [IntKind.wrap_u8]; omega
        have HZ := Lib.hid hz
        clear hz h hv
        go_enter Tryd.func51, Tryd.ntmps51
        go_wp2
        go_ret
        exact retNew_mk _ HZ.out _ rfl _ rfl
      · rw [Lib.encodeRuneZ_four (by omega) (by omega)] at hz
        have d3 : decide (n < 65536) = false := by simpa using h3
        have w1 : IntKind.u8.wrap (240 + n / 262144) = 240 + n / 262144 := by rw [IntKind.wrap_u8]; omega
        have w2 : IntKind.u8.wrap (128 + n / 4096 % 64) = 128 + n / 4096 % 64 := by rw [IntKind.wrap_u8]; omega
        have w3 : IntKind.u8.wrap (128 + n / 64 % 64) = 128 + n / 64 % 64 := by rw [IntKind.wrap_u8]; omega
        have w4 : IntKind.u8.wrap (128 + n % 64) = 128 + n % 64 := by rw [IntKind.wrap_u8]; omega
        have HZ := Lib.hid hz
        clear hz h hv
        go_enter Tryd.func51, Tryd.ntmps51
        go_wp2
        go_ret
        exact retNew_mk _ HZ.out _ rfl _ rfl

set_option maxHeartbeats 1000000 in
set_option maxRecDepth 100000 in
theorem rput_one (n : Int) (h0 : 0 ≤ n) (h1 : n ≤ 2147483647) (ad : Addr) (c : Nat) (w : World) (hcell : w.cell? ad = some (.int .i32 n)) (hb : ad.block < w.heap.size) :
    Calls Tryd.prog 43 #[.slice (some ad) 1 c] w (RetPut n w) := by
  have hv : ∀ W : World, Calls Tryd.prog 50 #[.int .i64 n] W fun e w' => e = .returned (.bool (Lib.validRune n)) ∧ W = w' := fun W => ris_any n h0 W
  have hnil : w.ownsRow w.heap.size 5 1 (.slice none 0 0) 0 (rb []) := World.ownsRow_nil _ _ _ _
  have hle := (encodeRune_le n).2
  have hz : ad.add 0 = ad := by simp [Addr.add]
  unfold RetPut
  cases hval : Lib.validRune n with
  | false =>
    rw [hval] at hv
    have HV := Lib.hid hv
    clear hv hval
    go_enter Tryd.func43, Tryd.ntmps43
    go_wp2_with fail
    go_loopw [4, 5] (fun v i wr => i = .int .i64 0 ∧ wr = w) (fun _ i _ => 1 - (intOf i).toNat)
    case atStart => exact ⟨rfl, rfl⟩
    case round =>
      obtain ⟨rfl, rfl⟩ := hrel
      go_wp2_with (go_at_call 50; refine (HV.out _).mono ?_; rintro e w1 ⟨rfl, rfl⟩)
      go_ret2
      exact ⟨rfl, Below.refl _ _⟩
  | true =>
    have hB : ∀ W : World, Calls Tryd.prog 51 #[.int .i64 n] W (RetNew (Lib.encodeRune n) W) := fun W => rbytes_any n hval W
    rw [hval] at hv
    obtain ⟨E, hE⟩ : ∃ E, Lib.encodeRune n = E := ⟨_, rfl⟩
    rw [hE] at hB hle ⊢
    have HV := Lib.hid hv
    have HB := Lib.hid hB
    clear hv hB hE hval
    go_enter Tryd.func43, Tryd.ntmps43
    go_wp2_with fail
    go_loopw [4, 5] (fun v i wr => (i = .int .i64 0 ∧ v = .slice none 0 0 ∧ wr = w) ∨ (i = .int .i64 1 ∧ ∃ A c m, v = .slice A m c ∧ E.length = m ∧ wr.ownsRow w.heap.size 5 1 v m (rb E) ∧ Below w.heap.size w wr)) (fun _ i _ => 1 - (intOf i).toNat)
    case atStart => exact .inl ⟨rfl, rfl, rfl⟩
    case round =>
      rcases hrel with ⟨rfl, rfl, rfl⟩ | ⟨rfl, A, c2, m, rfl, hm, hown, hbel⟩
      · go_wp2_with (first
          | (go_at_call 50; refine (HV.out _).mono ?_; rintro e w1 ⟨rfl, rfl⟩)
          | (go_at_call 51; refine (HB.out _).mono ?_; rintro e w1 ⟨A1, m1, c1, rfl, hm1, hrd1, hb1⟩; have hnil1 : w1.ownsRow wr.heap.size 5 1 (.slice none 0 0) ([] : List UInt8).length (rb []) := World.ownsRow_nil _ _ _ _; have hsz1 := hb1.size; subst hm1)
          | (at_builtin; (refine app_bytes w1 rfl (.tmp 19) (.tmp 25) rfl wr.heap.size _ [] rfl hnil1 w1.heap.size A1 c1 E rfl hrd1 (by simp; omega) hsz1 ?_); intro A2 c2 w2 hown2 hg2 hat2))
        have hbel := hb1.trans (below_own hnil1 hg2 hsz1)
        rw [List.nil_append] at hown2
        clear hg2 hat2 hrd1
        go_roundw
        case rel => exact .inr ⟨rfl, A2, c2, E.length, rfl, rfl, hown2, hbel⟩
        case measure => simp [intOf]
      · obtain ⟨hrd, hlen⟩ := own_rd hown
        have hcv := str_n hrd hlen c2
        have HM := Lib.hid hm
        clear hm hlen
        go_wp2
        go_ret2
        exact ⟨rfl, hbel⟩
end Go.Proofs.YtpmalmednkknpaaDoor
