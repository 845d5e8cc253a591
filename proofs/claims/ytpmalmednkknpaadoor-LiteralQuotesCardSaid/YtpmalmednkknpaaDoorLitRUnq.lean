/-
  The reference's Unquote.
-/
import Derived.Test.YtpmalmednkknpaaDoorLitUnq
import Derived.Test.YtpmalmednkknpaaDoorLitPiece
import Derived.Test.YtpmalmednkknpaaDoorLitRQ
import Derived.Laws.IdiomStrings
set_option linter.unusedVariables false
namespace Go.Proofs.YtpmalmednkknpaaDoor
open Go.RowKit
attribute [local go_sem] ByteArray.extract_mk

namespace Ltr
theorem esc_fit (r : List UInt8) {x : List UInt8} {n e : Int} (h : esc r = (x, n, e)) (he : e = 0) : 1 ≤ n ∧ n ≤ (r.length : Int) ∧ x.length ≤ 4 := by subst he; exact esc_ok r h
/-- One element, by the reference's word for it. -/
theorem unq_step (f a : Nat) (c : UInt8) (t acc : List UInt8) {l : List UInt8} {n e : Int} (h : pieceF a c t = (l, n, e)) :
    unq (f + 1) (c :: t) acc = if c = 34 ∧ t = [] then (acc, 0) else if e ≠ 0 then ([], e) else unq f (t.drop (n.toNat - (a + 1))) (acc ++ l) := by
  conv => lhs; unfold unq
  unfold pieceF at h
  by_cases h34 : c = 34
  · rw [if_pos (.inr (.inl h34))] at h
    injection h with h1 h2
    injection h2 with h2 h3
    rw [if_pos h34]
    by_cases ht : t = []
    · rw [if_pos ht, if_pos ⟨h34, ht⟩]
    · rw [if_neg ht, if_neg (fun k => ht k.2), if_pos (by omega), ← h3]
  · rw [if_neg h34, if_neg (fun k : c = 34 ∧ t = [] => h34 k.1)]
    by_cases hx : c.toNat < 32 ∨ c = 127
    · rw [if_pos (by rcases hx with h | h; exact .inl h; exact .inr (.inr h))] at h
      injection h with h1 h2
      injection h2 with h2 h3
      rw [if_pos hx, if_pos (by omega), ← h3]
    · rw [if_neg hx]
      rw [if_neg (by rintro (h | h | h); exact hx (.inl h); exact h34 h; exact hx (.inr h))] at h
      by_cases h92 : c = 92
      · rw [if_neg (by simp [h92])] at h ⊢
        by_cases he : (esc t).2.2 = 0
        · rw [if_pos he] at h
          injection h with h1 h2
          injection h2 with h2 h3
          rw [if_neg (by simp [he]), if_neg (by omega), ← h1]
          obtain ⟨m1, _⟩ := esc_fit t (x := (esc t).1) (n := (esc t).2.1) (e := (esc t).2.2) rfl he
          congr 2
          omega
        · rw [if_neg he] at h
          injection h with h1 h2
          injection h2 with h2 h3
          rw [if_pos he, ← h3, if_pos he]
      · rw [if_pos h92] at h ⊢
        injection h with h1 h2
        injection h2 with h2 h3
        rw [if_neg (by omega), ← h1, ← h2]
        rw [show ((a : Int) + 1).toNat - (a + 1) = 0 from by omega]
        rfl
theorem piece_fit (a : Nat) (c : UInt8) (t : List UInt8) {l : List UInt8} {n : Int} (h : pieceF a c t = (l, n, 0)) : (a : Int) + 1 ≤ n ∧ n ≤ (a : Int) + 1 + (t.length : Int) ∧ l.length ≤ 4 := by
  unfold pieceF at h
  split at h
  · injection h with h1 h2
    injection h2 with h2 h3
    cases h3
  · split at h
    · injection h with h1 h2
      injection h2 with h2 h3
      subst h1
      simp
      omega
    · split at h
      · rename_i he
        injection h with h1 h2
        injection h2 with h2 h3
        obtain ⟨m1, m2, m3⟩ := esc_fit t (x := (esc t).1) (n := (esc t).2.1) (e := (esc t).2.2) rfl he
        subst h1
        omega
      · injection h with h1 h2
        injection h2 with h2 h3
        omega
end Ltr

theorem bytes_row_get (s : ByteArray) (cap : Nat) (j : Nat) (h : j < s.size) : (bytesRow s cap)[j]? = some (.int .u8 (s.data[j]'h).toNat) := by
  unfold bytesRow
  rw [Array.getElem?_append_left (by simpa using h)]
  simp [h]
/-- What '[]byte(s)' lays reads as s. -/
theorem rd_conv (W : World) (l : List UInt8) (cap : Nat) (e : TypeId) (p : Nat × Nat) : RdB (W.drew.alloc (.cells (bytesRow ⟨l.toArray⟩ cap) e p)) (W.drew.alloc (.cells (bytesRow ⟨l.toArray⟩ cap) e p)).heap.size (some ⟨W.heap.size, 0, none⟩) l := by
  refine ⟨by simp [rb], fun _ => ⟨_, rfl, ?_, fun j u hj => ?_⟩⟩
  · show W.heap.size < (W.drew.alloc _).heap.size
    simp [World.alloc]
  · have hjl : j < l.length := by
      rcases Nat.lt_or_ge j l.length with h | h
      · exact h
      · rw [List.getElem?_eq_none (by simpa [rb] using h)] at hj; cases hj
    have hb : (W.drew.alloc (.cells (bytesRow ⟨l.toArray⟩ cap) e p)).heap[W.heap.size]? = some (.cells (bytesRow ⟨l.toArray⟩ cap) e p) := heap_alloc_new W.drew _
    have hsz : (ByteArray.mk l.toArray).size = l.length := by show l.toArray.size = _; simp
    have hg := bytes_row_get ⟨l.toArray⟩ cap j (by omega)
    refine World.news_of_block hb j u ?_
    rw [← hj, Array.getElem?_toList, hg]
    simp [rb, hjl]
    rfl

set_option maxHeartbeats 2000000 in
set_option maxRecDepth 100000 in
theorem runquote_any (s : List UInt8) (w : World) (hl : s.length ≤ 100000) :
    Calls Tryd.prog 13 #[.string ⟨s.toArray⟩] w (RetUnq (Ltr.unquote s) w) := by
  by_cases h2 : s.length < 2
  · have HE : Hid (Ltr.unquote s = ([], 4)) := Lib.hid (by unfold Ltr.unquote; rw [if_pos (.inl h2)])
    have d1 : decide ((s.length : Int) < 2) = true := by simp; omega
    have i1 : (s.length : Int) < 2 := by omega
    go_enter Tryd.func13, Tryd.ntmps13
    go_wp2_with fail
    go_ret2
    exact retUnq_nil HE.out (Below.refl _ _)
  · obtain ⟨c0, hc0⟩ : ∃ c, s[0] = c := ⟨_, rfl⟩
    have hb0 := lba_get s 0 (by omega) c0 hc0
    have hh : s.head? = some c0 := by rw [List.head?_eq_getElem?, List.getElem?_eq_getElem (by omega), hc0]
    have i1 : 2 ≤ (s.length : Int) := by omega
    by_cases h34 : c0 = 34
    · have HE : Hid (Ltr.unquote s = Ltr.unq s.length (s.drop 1) []) := Lib.hid (by unfold Ltr.unquote; rw [if_neg (by rw [hh, h34]; simp; omega)])
      have s1 : ((c0.toNat : Int) != 34) = false := by subst h34; rfl
      obtain ⟨R, hR⟩ : ∃ R, Ltr.unquote s = R := ⟨_, rfl⟩
      rw [hR]
      have HR := Lib.hid (HE.out.symm.trans hR)
      have HG : Hid (∀ i (h : i < s.length) (c : UInt8), s[i] = c → ∀ h2, (ByteArray.mk s.toArray)[i]'h2 = c) := Lib.hid (fun i h c hc h2 => by rw [← hc]; rfl)
      have HP : Hid (∀ (a : Nat) (W : World) (h : a < s.length), Calls Tryd.prog 25 #[.string ⟨s.toArray⟩, .int .i64 (a : Int)] W (RetE (Ltr.pieceF a s[a] (s.drop (a + 1))) W)) := Lib.hid (fun a W h => piece_any s a W (by omega) h)
      clear hc0 hh h34 hR
      go_enter Tryd.func13, Tryd.ntmps13
      go_wp2_with fail
      go_loopw [4, 5] (fun v iv wr => ∃ (i f : Nat) (acc : List UInt8), 1 ≤ i ∧ i ≤ s.length ∧ iv = .int .i64 i ∧ v = .string ⟨acc.toArray⟩ ∧ acc.length ≤ 4 * i ∧ s.length < i + f ∧ Below w.heap.size w wr ∧ Ltr.unq f (s.drop i) acc = R) (fun _ iv _ => s.length - (intOf iv).toNat)
      case atStart => exact ⟨1, s.length, [], by omega, by omega, rfl, rfl, by simp, by omega, Below.refl _ _, HR.out⟩
      case round =>
        clear hb0 s1
        obtain ⟨i, f, acc, hi0, hi1, rfl, rfl, hn4, hf, hb, hu⟩ := hrel
        have hsz := hb.size
        have HU := Lib.hid hu
        have p0 : (0 : Int) ≤ (i : Int) := by omega
        clear hu
        by_cases hil : i < s.length
        · have i2 : (i : Int) < (s.length : Int) := by omega
          obtain ⟨f, rfl⟩ : ∃ g, f = g + 1 := ⟨f - 1, by omega⟩
          have hbk := HG.out i hil s[i] rfl (by show i < s.toArray.size; simpa using hil)
          have HD := Lib.hid (List.drop_eq_getElem_cons hil)
          have hpc := fun W : World => HP.out i W hil
          obtain ⟨c, hc⟩ : ∃ c, s[i] = c := ⟨_, rfl⟩
          rw [hc] at hbk HD hpc
          have hcl := c.toNat_lt
          have hfit := fun (l : List UInt8) (n : Int) (h : Ltr.pieceF i c (s.drop (i + 1)) = (l, n, 0)) => Ltr.piece_fit i c (s.drop (i + 1)) h
          obtain ⟨⟨l, n, e⟩, hx⟩ : ∃ q, Ltr.pieceF i c (s.drop (i + 1)) = q := ⟨_, rfl⟩
          have hu := HU.out
          rw [HD.out, Ltr.unq_step f i c (s.drop (i + 1)) acc hx] at hu
          rw [hx] at hpc
          have HX := Lib.hid hpc
          by_cases hend : c = 34 ∧ s.drop (i + 1) = []
          · rw [if_pos hend] at hu
            obtain ⟨h34, he⟩ := hend
            have s1 : ((c.toNat : Int) == 34) = true := by subst h34; rfl
            have hel : s.length = i + 1 := by have := congrArg List.length he; simp at this; omega
            have e1 : ((i : Int) == (s.length : Int) - 1) = true := by simp; omega
            have hcv : ∀ W : World, (convert 9 22 (.string ⟨acc.toArray⟩)).run Tryd.prog W = _ := fun W => run_bytes_of_string W 9 22 5 _ Tryd.underlying9 Tryd.underlying22 Tryd.underlying5
            have hcw := hcv wr
            have HUu := Lib.hid hu
            clear hu he h34 hc hpc hfit hx HU hcv
            go_wp2_with fail
            go_ret2
            exact retUnq_mk HUu.out.symm (by simp) (rd_conv wr acc _ _ _) ((hb.drew).alloc (by show w.heap.size ≤ wr.heap.size; exact hsz) _)
          · rw [if_neg hend] at hu
            have cond : (((c.toNat : Int) == 34) = false) ∨ (((c.toNat : Int) == 34) = true ∧ ((i : Int) == (s.length : Int) - 1) = false) := by
              by_cases h34 : c = 34
              · refine .inr ⟨by subst h34; rfl, ?_⟩
                have hel : s.length ≠ i + 1 := fun e => hend ⟨h34, List.drop_eq_nil_of_le (by omega)⟩
                simp; omega
              · have := lcne c 34 (by omega) h34
                simp only [Int.cast_ofNat_Int] at this
                exact .inl this
            by_cases her : e = 0
            · subst her
              rw [if_neg (by simp)] at hu
              obtain ⟨m1, m2, m3⟩ := hfit l n hx
              simp at m2
              obtain ⟨N, rfl⟩ := Int.eq_ofNat_of_zero_le (by omega : 0 ≤ n)
              simp only [Int.toNat_natCast, List.drop_drop] at hu
              rw [show i + 1 + (N - (i + 1)) = N from by omega] at hu
              have HUu := Lib.hid hu
              clear hu hc hpc hfit hx hend HU
              rcases cond with s1 | ⟨s1, e1⟩
              all_goals
                go_wp2_with (go_at_call 25; refine (HX.out _).mono ?_; rintro e w1 ⟨rfl, hb1⟩)
                have hbb := hb.trans (hb1.mono hsz)
                go_roundw
                case rel => exact ⟨N, f, acc ++ l, by omega, by omega, by go_num, congrArg Value.string (ba_app acc l), by simp; omega, by omega, hbb, HUu.out⟩
                case measure => simp [intOf]; omega
            · rw [if_pos her] at hu
              have e2 : (e != 0) = true := by simpa using her
              have HUu := Lib.hid hu
              clear hu hc hpc hfit hx hend her HU
              rcases cond with s1 | ⟨s1, e1⟩
              all_goals
                go_wp2_with (go_at_call 25; refine (HX.out _).mono ?_; rintro e w1 ⟨rfl, hb1⟩)
                go_ret2
                exact retUnq_nil HUu.out.symm (hb.trans (hb1.mono hsz))
        · obtain rfl : i = s.length := by omega
          have HE2 : Hid (R = ([], 4)) := Lib.hid (by have := HU.out; rw [List.drop_eq_nil_of_le (Nat.le_refl _), Ltr.unq_nil] at this; exact this.symm)
          go_wp2_with fail
          go_ret2
          exact retUnq_nil HE2.out hb
    · have HE : Hid (Ltr.unquote s = ([], 4)) := Lib.hid (by unfold Ltr.unquote; rw [if_pos (.inr (by rw [hh]; simpa using h34))])
      have s1 := lcne' c0 34 (by omega) h34
      simp only [Int.cast_ofNat_Int] at s1
      clear hh hc0 h34
      go_enter Tryd.func13, Tryd.ntmps13
      go_wp2_with fail
      go_ret2
      exact retUnq_nil HE.out (Below.refl _ _)
end Go.Proofs.YtpmalmednkknpaaDoor
