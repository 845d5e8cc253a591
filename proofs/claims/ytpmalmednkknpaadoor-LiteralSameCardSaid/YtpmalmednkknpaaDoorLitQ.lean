/-
  literal.Quote and the reference's Quote.
-/
import Derived.Test.YtpmalmednkknpaaDoorLitP
import Derived.Deep.RegionLaw
set_option linter.unusedVariables false
namespace Go.Proofs.YtpmalmednkknpaaDoor
open Go.RowKit
attribute [local go_sem] ByteArray.extract_mk

/-- A string from bytes whose length has a name of its own. -/
theorem str_n {W : World} {B : Nat} {A : Option Addr} {l : List UInt8} (h : RdB W B A l) {n : Nat} (hn : l.length = n) (c : Nat) : (convert 22 9 (.slice A n c)).run Tryd.prog W = .ok (.string ⟨l.toArray⟩) W := by
  subst hn
  exact run_string_of_bytes W 22 9 5 Tryd.underlying22 Tryd.underlying5 Tryd.underlying9 h c
theorem and15 (x : Int) (h0 : 0 ≤ x) (h1 : x < 256) : bits .and .u8 x 15 = x % 16 := by
  rw [u8_and x 15 h0 h1 (by omega) (by omega)]
  have := Ltr.and15_fin ⟨x.toNat, by omega⟩
  simp only [show (15 : Int).toNat = 15 from rfl]
  simp only at this
  omega
theorem hex_news (x : UInt8) (h1 h2) : #[Value.int .u8 92, .int .u8 (((ByteArray.mk #[48, 49, 50, 51, 52, 53, 54, 55, 56, 57, 97, 98, 99, 100, 101, 102])[((x.toNat : Int) / 16).toNat]'h1).toNat : Int), .int .u8 (((ByteArray.mk #[48, 49, 50, 51, 52, 53, 54, 55, 56, 57, 97, 98, 99, 100, 101, 102])[((x.toNat : Int) % 16).toNat]'h2).toNat : Int)].toList = rb [92, Ltr.hexc (x.toNat / 16), Ltr.hexc (x.toNat % 16)] := by
  have hx := x.toNat_lt
  have k1 : x.toNat / 16 < 16 := by omega
  have k2 : x.toNat % 16 < 16 := by omega
  have e1 : ((x.toNat : Int) / 16).toNat = x.toNat / 16 := by omega
  have e2 : ((x.toNat : Int) % 16).toNat = x.toNat % 16 := by omega
  have a1 := Ltr.hexb_at ⟨_, k1⟩ k1
  have a2 := Ltr.hexb_at ⟨_, k2⟩ k2
  simp only [e1, e2]
  simp only at a1 a2
  simp [rb, bv, a1, a2]
theorem grown_undrew {W w' : World} {row : Option Nat} (h : W.drew.grownBy w' row) : W.grownBy w' row := ⟨h.os, h.tape, h.output, h.size, h.block⟩
theorem own_rd {W : World} {base n : Nat} {A : Option Addr} {c : Nat} {l : List UInt8} (h : W.ownsRow base 5 1 (.slice A n c) n (rb l)) : RdB W W.heap.size A l ∧ l.length = n := by
  have hl : l.length = n := by have := h.1; simpa [rb] using this
  subst hl
  exact ⟨Reads.of_own h, rfl⟩

set_option maxHeartbeats 2000000 in
set_option maxRecDepth 100000 in
theorem quote_any (A : Option Addr) (c : Nat) (b : List UInt8) (w : World) (hr : RdB w w.heap.size A b) (hl : b.length ≤ 1000000) :
    Calls Tryd.prog 14 #[.slice A b.length c] w fun e w' => e = .returned (.string ⟨(Ltr.quote b).toArray⟩) ∧ Below w.heap.size w w' := by
  go_enter Tryd.func14, Tryd.ntmps14
  go_wp2_with fail
  go_loopw [3, 9] (fun v i wr => ∃ (k : Nat) (A1 : Option Addr) (c1 n1 : Nat), k ≤ b.length ∧ i = .int .i64 k ∧ v = .slice A1 n1 c1 ∧ (34 :: Ltr.quoteB (b.take k)).length = n1 ∧ wr.ownsRow w.heap.size 5 1 v n1 (rb (34 :: Ltr.quoteB (b.take k))) ∧ Below w.heap.size w wr) (fun _ i _ => b.length - (intOf i).toNat)
  case atStart => exact ⟨0, _, _, 1, by omega, rfl, rfl, rfl, World.ownsRow_lit w #[.int .u8 34] 1 (Nat.le_refl _) (by unfold maxLen; omega) rfl, (Below.refl _ _).alloc (Nat.le_refl _) _⟩
  case round =>
    obtain ⟨k, A1, c1, n1, hk, rfl, rfl, hn, hown, hb⟩ := hrel
    have hq := Ltr.quoteB_le (b.take k)
    have hn1 : n1 ≤ 3000001 := by simp at hn hq; omega
    have hsz := hb.size
    by_cases hkl : k < b.length
    · obtain ⟨ad, rfl, hblk, hcell0⟩ := hr.at_ hkl
      have hcell := (hb.cell (p := ad.add k) (by rw [block_of_add]; exact hblk)).trans hcell0
      have HT := Lib.hid (Ltr.quoteB_take b k hkl)
      have k0 : (0 : Int) ≤ (k : Int) := Int.natCast_nonneg _
      have k1 : (k : Int) < (b.length : Int) := by omega
      obtain ⟨x, hx⟩ : ∃ x, b[k] = x := ⟨_, rfl⟩
      rw [hx] at hcell HT
      have hx256 := x.toNat_lt
      have HN := Lib.hid hn
      clear hcell0 hx hq hn
      cases hp : Ltr.plainB x with
      | true =>
        have HQ := Lib.hid (Ltr.q1_plain hp)
        obtain ⟨p1, p2, p3, p4⟩ := Ltr.plainB_yes hp
        have d1 : decide ((32 : Int) ≤ (x.toNat : Int)) = true := by simp; omega
        have d2 : decide ((x.toNat : Int) < 127) = true := by simp; omega
        have d3 := lcne' x 34 (by omega) p3
        have d4 := lcne' x 92 (by omega) p4
        simp only [Int.cast_ofNat_Int] at d3 d4
        clear hp p3 p4
        go_wp2_with (at_builtin; (refine app_byte_n wr (x.toNat : Int) rfl (.tmp 27) (.tmp 29) rfl w.heap.size _ n1 _ HN.out rfl hown wr.heap.size rfl rfl (by omega) (by omega) (by omega) hsz ?_); intro A2 c2 w2 hown2 hg2 hat2)
        have hrel2 : w2.ownsRow w.heap.size 5 1 (.slice A2 (n1 + 1) c2) (n1 + 1) (rb (34 :: Ltr.quoteB (b.take (k + 1)))) := by
          rw [HT.out, HQ.out]
          simpa using hown2
        have hnn : (34 :: Ltr.quoteB (b.take (k + 1))).length = n1 + 1 := by
          rw [HT.out, HQ.out, ← HN.out]; simp
        have hbb := hb.trans (below_own hown hg2 hsz)
        clear hown hown2 hg2 hat2 hcell
        have HNN := Lib.hid hnn
        clear hnn
        go_roundw
        case rel => exact ⟨k + 1, A2, c2, n1 + 1, by omega, by go_num, rfl, HNN.out, hrel2, hbb⟩
        case measure => simp [intOf]; omega
      | false =>
        have HQ := Lib.hid (Ltr.q1_hex hp)
        have hx1 : x.toNat / 16 < 16 := by omega
        have hx2 : x.toNat % 16 < 16 := by omega
        have HH1 := Lib.hid (Ltr.hexes_at ⟨_, hx1⟩)
        have HH2 := Lib.hid (Ltr.hexes_at ⟨_, hx2⟩)
        have ways : (decide ((32 : Int) ≤ (x.toNat : Int)) = false) ∨ (decide ((32 : Int) ≤ (x.toNat : Int)) = true ∧ decide ((x.toNat : Int) < 127) = false) ∨ (decide ((32 : Int) ≤ (x.toNat : Int)) = true ∧ decide ((x.toNat : Int) < 127) = true ∧ ((x.toNat : Int) != 34) = false) ∨ (decide ((32 : Int) ≤ (x.toNat : Int)) = true ∧ decide ((x.toNat : Int) < 127) = true ∧ ((x.toNat : Int) != 34) = true ∧ ((x.toNat : Int) != 92) = false) := by
          rcases Ltr.plainB_no hp with h | ⟨h, h'⟩ | h | h
          · exact .inl (by simp; omega)
          · exact .inr (.inl ⟨by simp; omega, by simp; omega⟩)
          · subst h; exact .inr (.inr (.inl ⟨by decide, by decide, by decide⟩))
          · subst h; exact .inr (.inr (.inr ⟨by decide, by decide, by decide, by decide⟩))
        clear hp
        obtain ⟨i0, hi0, hz0, hz1, hz2⟩ := info_parts info_u8
        have a15 := and15 (x.toNat : Int) (by omega) (by omega)
        have q1 : (0 : Int) ≤ (x.toNat : Int) / 16 := by omega
        have q2 : (x.toNat : Int) / 16 < 16 := by omega
        have q3 : (0 : Int) ≤ (x.toNat : Int) % 16 := by omega
        have q4 : (x.toNat : Int) % 16 < 16 := by omega
        rcases ways with d1 | ⟨d1, d2⟩ | ⟨d1, d2, d3⟩ | ⟨d1, d2, d3, d4⟩
        all_goals
          go_wp2_with fail
          go_region_law (refine step_append_lies _ (by rfl) (.tmp 31) (.tmp 38) 22 (by rfl) w.heap.size 5 i0 _ 1 1 Tryd.underlying22 hi0 hz0 hz1 hz2 rfl (by omega) (.slice A1 n1 c1) n1 _ (by rfl) (hown.alloc _) ⟨wr.heap.size, 0, none⟩ 3 3 _ (by rfl) (by rfl) (World.news_of_block (heap_alloc_new wr _)) (three_one rfl rfl rfl) (by omega) (by unfold maxLen; omega) (by omega) (by simp; omega) (wr.heap.size + 1) (by simp) ?_; intro gg cap w3 hown3 hg3 hat3 hlt3)
        all_goals
          go_wp2_with fail
          have hbb := hb.trans (below_own hown (grown_alloc_first (w := wr) (grown_undrew hg3)) hsz)
          rw [hex_news] at hown3
          have hrel2 : w3.ownsRow w.heap.size 5 1 (.slice (some ⟨gg, 0, none⟩) (n1 + 3) cap) (n1 + 3) (rb (34 :: Ltr.quoteB (b.take (k + 1)))) := by
            rw [HT.out, HQ.out]
            rw [← rb_append] at hown3
            exact hown3
          have hnn : (34 :: Ltr.quoteB (b.take (k + 1))).length = n1 + 3 := by
            rw [HT.out, HQ.out, ← HN.out]; simp
          clear hown hown3 hg3 hat3 hcell
          have HNN := Lib.hid hnn
          clear hnn
          go_roundw
          case rel => exact ⟨k + 1, _, cap, n1 + 3, by omega, by go_num, rfl, HNN.out, hrel2, hbb⟩
          case measure => simp [intOf]; omega
    · obtain rfl : k = b.length := by omega
      rw [List.take_length] at hown hn
      have HN := Lib.hid hn
      clear hn hq
      go_wp2_with (at_builtin; (refine app_byte_n wr 34 rfl (.tmp 41) (.tmp 42) rfl w.heap.size _ n1 _ HN.out rfl hown wr.heap.size rfl rfl (by omega) (by omega) (by omega) hsz ?_); intro A2 c2 w2 hown2 hg2 hat2; obtain ⟨hrd, hlen⟩ := own_rd hown2; have hcv := str_n hrd hlen c2; have HL := Lib.hid hlen; clear hlen)
      have hbb := hb.trans (below_own hown hg2 hsz)
      go_ret
      exact ⟨by simp [Ltr.quote], hbb⟩
end Go.Proofs.YtpmalmednkknpaaDoor
