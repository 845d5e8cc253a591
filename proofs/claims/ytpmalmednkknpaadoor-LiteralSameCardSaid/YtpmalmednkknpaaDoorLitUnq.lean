/-
  literal.Unquote: the bytes of a string literal.
-/
import Derived.Test.YtpmalmednkknpaaDoorLitEsc
import Derived.Lib.AppendStr
set_option linter.unusedVariables false
namespace Go.Proofs.YtpmalmednkknpaaDoor
open Go.RowKit
attribute [local go_sem] ByteArray.extract_mk

namespace Ltr
/-- The bytes behind the opening quote, out of acc; the error. -/
def unq : Nat → List UInt8 → List UInt8 → List UInt8 × Int
  | 0, _, _ => ([], 4)
  | _ + 1, [], _ => ([], 4)
  | f + 1, c :: t, acc =>
    if c = 34 then (if t = [] then (acc, 0) else ([], 4))
    else if c.toNat < 32 ∨ c = 127 then ([], 4)
    else if c ≠ 92 then unq f t (acc ++ [c])
    else if (esc t).2.2 ≠ 0 then ([], (esc t).2.2)
    else unq f (t.drop (esc t).2.1.toNat) (acc ++ (esc t).1)
def unquote (s : List UInt8) : List UInt8 × Int := if s.length < 2 ∨ s.head? ≠ some 34 then ([], 4) else unq s.length (s.drop 1) []
theorem pointF_ok3 (t : List UInt8) {x : List UInt8} {n : Int} (h : pointF t = (x, n, 0)) : 3 ≤ n ∧ n ≤ (t.length : Int) + 3 ∧ x.length ≤ 4 := by
  have hl := hrun_le t
  unfold pointF at h
  split at h
  · injection h with _ h; injection h with _ h; cases h
  · split at h
    · injection h with h1 h2
      injection h2 with h2 _
      rw [← h1, ← h2]
      exact ⟨by omega, by omega, (encodeRune_le _).2⟩
    · injection h with _ h; injection h with _ h; cases h
theorem pointF_lt (t : List UInt8) {x : List UInt8} {n : Int} (h : pointF t = (x, n, 0)) : n ≤ (t.length : Int) + 2 := by
  have hl := hrun_le t
  unfold pointF at h
  split at h
  · injection h with _ h; injection h with _ h; cases h
  · rename_i hc
    have hx : (t.drop (hrun t).length).head? = some 125 := Decidable.of_not_not (fun e => hc (.inr (.inr e)))
    have : (hrun t).length < t.length := by
      rcases Nat.lt_or_ge (hrun t).length t.length with h | h
      · exact h
      · rw [List.drop_eq_nil_of_le h] at hx; cases hx
    split at h
    · injection h with h1 h2
      injection h2 with h2 _
      omega
    · injection h with _ h; injection h with _ h; cases h
theorem esc_ok (r : List UInt8) {x : List UInt8} {n : Int} (h : esc r = (x, n, 0)) : 1 ≤ n ∧ n ≤ (r.length : Int) ∧ x.length ≤ 4 := by
  unfold esc at h
  split at h
  · injection h with _ h; injection h with _ h; cases h
  · rename_i c t
    split at h
    · injection h with h1 h2
      injection h2 with h2 _
      subst h1 h2
      simp
      omega
    · split at h
      · unfold pointS at h
        split at h
        · have h3 := pointF_ok3 _ h
          have h4 := pointF_lt _ h
          simp at h4 ⊢
          omega
        · injection h with _ h; injection h with _ h; cases h
      · unfold escT at h
        split at h
        · injection h with _ h; injection h with _ h; cases h
        · split at h
          · injection h with _ h; injection h with _ h; cases h
          · injection h with h1 h2
            injection h2 with h2 _
            subst h1 h2
            simp
            omega
theorem unq_nil (f : Nat) (acc : List UInt8) : unq f [] acc = ([], 4) := by cases f <;> rfl
end Ltr

/-- A byte slice that reads as x.1, and an error. -/
def RetUnq (x : List UInt8 × Int) (w : World) (e : Ending) (w' : World) : Prop := ∃ A m c, e = .returned (.tuple #[.slice A m c, .int .i64 x.2]) ∧ x.1.length = m ∧ RdB w' w'.heap.size A x.1 ∧ Below w.heap.size w w'
theorem retUnq_mk {x : List UInt8 × Int} {w w' : World} {l : List UInt8} {e : Int} {A : Option Addr} {n c : Nat} (h : x = (l, e)) (hn : l.length = n) (hr : RdB w' w'.heap.size A l) (hb : Below w.heap.size w w') : RetUnq x w (.returned (.tuple #[.slice A n c, .int .i64 e])) w' := by
  subst h; exact ⟨A, n, c, rfl, hn, hr, hb⟩
theorem own_same' {W W' : World} {base : Nat} {e : TypeId} {size n : Nat} {v : Value} {xs : List Value} (h : W.ownsRow base e size v n xs) (hb : Below W.heap.size W W') : W'.ownsRow base e size v n xs := by
  refine ⟨h.1, ?_⟩
  rcases h.2 with hn | ⟨g, cap, cur, rfl, h1, h2, h3⟩
  · exact .inl hn
  · exact .inr ⟨g, cap, cur, rfl, h1, (hb.block g (by
      by_cases hl : g < W.heap.size
      · exact hl
      · rw [Array.getElem?_eq_none (by omega)] at h2; cases h2)).trans h2, h3⟩
theorem retUnq_nil {x : List UInt8 × Int} {w w' : World} {e : Int} (h : x = ([], e)) (hb : Below w.heap.size w w') : RetUnq x w (.returned (.tuple #[.slice none 0 0, .int .i64 e])) w' := by
  subst h; exact ⟨none, 0, 0, rfl, rfl, RdB.nil_, hb⟩

set_option maxHeartbeats 2000000 in
set_option maxRecDepth 100000 in
theorem unquote_any (s : List UInt8) (w : World) (hl : s.length ≤ 1000000) :
    Calls Tryd.prog 12 #[.string ⟨s.toArray⟩] w (RetUnq (Ltr.unquote s) w) := by
  by_cases h2 : s.length < 2
  · have HE : Hid (Ltr.unquote s = ([], 4)) := Lib.hid (by unfold Ltr.unquote; rw [if_pos (.inl h2)])
    have d1 : decide ((s.length : Int) < 2) = true := by simp; omega
    have i1 : (s.length : Int) < 2 := by omega
    go_enter Tryd.func12, Tryd.ntmps12
    go_wp2_with fail
    go_ret2
    exact retUnq_nil HE.out (Below.refl _ _)
  · obtain ⟨c0, hc0⟩ : ∃ c, s[0] = c := ⟨_, rfl⟩
    have hb0 := lba_get s 0 (by omega) c0 hc0
    have hh : s.head? = some c0 := by rw [List.head?_eq_getElem?, List.getElem?_eq_getElem (by omega), hc0]
    have i1 : 2 ≤ (s.length : Int) := by omega
    by_cases h34 : c0 = 34
    · have HE : Hid (Ltr.unquote s = Ltr.unq s.length (s.drop 1) []) := Lib.hid (by unfold Ltr.unquote; rw [if_neg (by rw [hh, h34]; simp; omega)])
      have s1 : ((c0.toNat : Int) != 34) = false := by subst h34; rfl
      obtain ⟨R, hR⟩ : ∃ R, Ltr.unquote s = R := ⟨_, rfl⟩
      rw [hR]
      have HR := Lib.hid (HE.out.symm.trans hR)
      have HG : Hid (∀ i (h : i < s.length) (c : UInt8), s[i] = c → ∀ h2, (ByteArray.mk s.toArray)[i]'h2 = c) := Lib.hid (fun i h c hc h2 => by rw [← hc]; rfl)
      clear hc0 hh h34 hR
      go_enter Tryd.func12, Tryd.ntmps12
      go_wp2_with fail
      go_loopw [4, 5] (fun v iv wr => ∃ (i f : Nat) (acc : List UInt8) (A : Option Addr) (n c : Nat), 1 ≤ i ∧ i ≤ s.length ∧ iv = .int .i64 i ∧ v = .slice A n c ∧ acc.length = n ∧ n ≤ 4 * i ∧ s.length < i + f ∧ wr.ownsRow w.heap.size 5 1 v n (rb acc) ∧ Below w.heap.size w wr ∧ Ltr.unq f (s.drop i) acc = R) (fun _ iv _ => s.length - (intOf iv).toNat)
      case atStart => exact ⟨1, s.length, [], none, 0, 0, by omega, by omega, rfl, rfl, rfl, by omega, by omega, World.ownsRow_nil _ _ _ _, Below.refl _ _, HR.out⟩
      case round =>
        clear hb0 s1
        obtain ⟨i, f, acc, A, n, c1, hi0, hi1, rfl, rfl, hn, hn4, hf, hown, hb, hu⟩ := hrel
        have hsz := hb.size
        have HN := Lib.hid hn
        have HU := Lib.hid hu
        have p0 : (0 : Int) ≤ (i : Int) := by omega
        clear hn hu
        by_cases hil : i < s.length
        · have i2 : (i : Int) < (s.length : Int) := by omega
          obtain ⟨f, rfl⟩ : ∃ g, f = g + 1 := ⟨f - 1, by omega⟩
          have hbk := HG.out i hil s[i] rfl (by show i < s.toArray.size; simpa using hil)
          have HD := Lib.hid (List.drop_eq_getElem_cons hil)
          obtain ⟨c, hc⟩ : ∃ c, s[i] = c := ⟨_, rfl⟩
          rw [hc] at hbk HD
          have hcl := c.toNat_lt
          have hu := HU.out
          rw [HD.out] at hu
          clear hc HU
          by_cases h34 : c = 34
          · have s1 : ((c.toNat : Int) == 34) = true := by subst h34; rfl
            unfold Ltr.unq at hu
            rw [if_pos h34] at hu
            by_cases he : s.drop (i + 1) = []
            · rw [if_pos he] at hu
              have hel : s.length = i + 1 := by have := congrArg List.length he; simp at this; omega
              have e1 : ((i : Int) + 1 == (s.length : Int)) = true := by simp; omega
              have HU := Lib.hid hu
              clear hu he h34
              go_wp2_with fail
              go_ret2
              exact retUnq_mk HU.out.symm HN.out (own_rd hown).1 hb
            · rw [if_neg he] at hu
              have hel : s.length ≠ i + 1 := fun e => he (List.drop_eq_nil_of_le (by omega))
              have e1 : ((i : Int) + 1 == (s.length : Int)) = false := by simp; omega
              have HU := Lib.hid hu
              clear hu he h34
              go_wp2_with fail
              go_ret2
              exact retUnq_nil HU.out.symm hb
          · have s1 := lcne c 34 (by omega) h34
            simp only [Int.cast_ofNat_Int] at s1
            unfold Ltr.unq at hu
            rw [if_neg h34] at hu
            by_cases hlow : c.toNat < 32
            · rw [if_pos (.inl hlow)] at hu
              have d1 : decide ((c.toNat : Int) < 32) = true := by simp; omega
              have HU := Lib.hid hu
              clear hu h34
              go_wp2_with fail
              go_ret2
              exact retUnq_nil HU.out.symm hb
            · have d1 : decide ((c.toNat : Int) < 32) = false := by simp; omega
              by_cases h127 : c = 127
              · rw [if_pos (.inr h127)] at hu
                have s2 : ((c.toNat : Int) == 127) = true := by subst h127; rfl
                have HU := Lib.hid hu
                clear hu h34 h127
                go_wp2_with fail
                go_ret2
                exact retUnq_nil HU.out.symm hb
              · rw [if_neg (by rintro (h | h); exact hlow h; exact h127 h)] at hu
                have s2 := lcne c 127 (by omega) h127
                simp only [Int.cast_ofNat_Int] at s2
                by_cases h92 : c = 92
                · have s3 : ((c.toNat : Int) != 92) = false := by subst h92; rfl
                  rw [if_neg (by simp [h92])] at hu
                  have hesc := fun W : World => escape_any (s.drop (i + 1)) W (by simp; omega)
                  have hok := fun (x : List UInt8) (m : Int) (h : Ltr.esc (s.drop (i + 1)) = (x, m, 0)) => Ltr.esc_ok _ h
                  obtain ⟨⟨x, m, er⟩, hx⟩ : ∃ q, Ltr.esc (s.drop (i + 1)) = q := ⟨_, rfl⟩
                  rw [hx] at hu hesc
                  dsimp only at hu
                  have hcut : List.take (s.length - (i + 1)) (List.drop (i + 1) s) = List.drop (i + 1) s := List.take_of_length_le (by simp)
                  have HC := Lib.hid hcut
                  have HX := Lib.hid hesc
                  have i3 : (i : Int) + 1 ≤ (s.length : Int) := by omega
                  by_cases her : er = 0
                  · subst her
                    rw [if_neg (by simp)] at hu
                    obtain ⟨m1, m2, m3⟩ := hok x m hx
                    simp at m2
                    obtain ⟨M, rfl⟩ := Int.eq_ofNat_of_zero_le (by omega : 0 ≤ m)
                    simp only [Int.toNat_natCast, List.drop_drop] at hu
                    have HU := Lib.hid hu
                    clear hu h34 h127 h92 hesc hok hx hcut
                    go_wp2_with fail
                    simp only [HC.out]
                    refine (HX.out _).mono ?_
                    rintro e w1 ⟨rfl, hb1⟩
                    have hown1 := own_same' hown hb1
                    have hsz1 := hb1.size
                    obtain ⟨i0, hj0, hz0, hz1, hz2⟩ := info_parts info_u8
                    have hszx : (ByteArray.mk x.toArray).size = x.length := by show x.toArray.size = _; simp
                    go_wp2_with (at_builtin; refine Lib.wpList_append_own_string _ rfl (.tmp 38) (.tmp 39) 22 9 rfl w.heap.size 5 i0 Tryd.underlying22 Tryd.underlying9 hj0 hz0 hz1 hz2 _ n _ rfl hown1 ⟨x.toArray⟩ rfl (by unfold maxLen; omega) (by omega) (by omega) ?_; intro v' w2 hown2 hgrow hiff; obtain ⟨A2, c2, rfl⟩ : ∃ A2 c2, v' = .slice A2 (n + (ByteArray.mk x.toArray).size) c2 := by rcases hown2.2 with ⟨h1, h2⟩ | ⟨g, cap, cur, h1, _⟩; exact ⟨none, 0, by rw [h1, h2]⟩; exact ⟨_, _, h1⟩)
                    have hbb := (hb.trans (hb1.mono hsz)).trans (below_own hown1 hgrow (by omega))
                    have hown3 : w2.ownsRow w.heap.size 5 1 (.slice A2 (n + x.length) c2) (n + x.length) (rb (acc ++ x)) := by
                      have hc : Lib.strCells ⟨x.toArray⟩ = rb x := by simp only [Lib.strCells, rb]; rfl
                      rw [hszx, hc] at hown2
                      simpa [rb] using hown2
                    try simp only [hszx]
                    clear hown hown1 hown2 hgrow hiff
                    go_roundw
                    case rel => exact ⟨i + 1 + M, f, acc ++ x, A2, n + x.length, c2, by omega, by omega, by go_num, rfl, by simp [HN.out], by omega, by omega, hown3, hbb, HU.out⟩
                    case measure => simp [intOf]; omega
                  · rw [if_pos her] at hu
                    have e1 : (er != 0) = true := by simpa using her
                    have HU := Lib.hid hu
                    clear hu h34 h127 h92 hesc hok hx hcut her
                    go_wp2_with fail
                    simp only [HC.out]
                    refine (HX.out _).mono ?_
                    rintro e w1 ⟨rfl, hb1⟩
                    go_wp2_with fail
                    go_ret2
                    exact retUnq_nil HU.out.symm (hb.trans (hb1.mono hsz))
                · have s3 := lcne' c 92 (by omega) h92
                  simp only [Int.cast_ofNat_Int] at s3
                  rw [if_pos h92] at hu
                  have HU := Lib.hid hu
                  clear hu h34 h127 h92
                  go_wp2_with (at_builtin; (refine app_byte_n wr (c.toNat : Int) rfl (.tmp 62) (.tmp 64) rfl w.heap.size _ n _ HN.out rfl hown wr.heap.size rfl rfl (by omega) (by omega) (by omega) hsz ?_); intro A2 c2 w2 hown2 hg2 hat2)
                  have hbb := hb.trans (below_own hown hg2 hsz)
                  have hown3 : w2.ownsRow w.heap.size 5 1 (.slice A2 (n + 1) c2) (n + 1) (rb (acc ++ [c])) := by simpa using hown2
                  clear hown hown2 hg2 hat2 hbk
                  go_roundw
                  case rel => exact ⟨i + 1, f, acc ++ [c], A2, n + 1, c2, by omega, by omega, by go_num, rfl, by simp [HN.out], by omega, by omega, hown3, hbb, HU.out⟩
                  case measure => simp [intOf]; omega
        · obtain rfl : i = s.length := by omega
          have HE2 : Hid (R = ([], 4)) := Lib.hid (by have := HU.out; rw [List.drop_eq_nil_of_le (Nat.le_refl _), Ltr.unq_nil] at this; exact this.symm)
          go_wp2_with fail
          go_ret2
          exact retUnq_nil HE2.out hb
    · have HE : Hid (Ltr.unquote s = ([], 4)) := Lib.hid (by unfold Ltr.unquote; rw [if_pos (.inr (by rw [hh]; simpa using h34))])
      have s1 := lcne' c0 34 (by omega) h34
      simp only [Int.cast_ofNat_Int] at s1
      clear hh hc0 h34
      go_enter Tryd.func12, Tryd.ntmps12
      go_wp2_with fail
      go_ret2
      exact retUnq_nil HE.out (Below.refl _ _)
end Go.Proofs.YtpmalmednkknpaaDoor
