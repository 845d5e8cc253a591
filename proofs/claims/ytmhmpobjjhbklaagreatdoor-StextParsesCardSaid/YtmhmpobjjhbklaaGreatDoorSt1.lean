/-
  Layer 40, the program: word, join, number, row, list.
-/
import Derived.Test.YtmhmpobjjhbklaaGreatDoorStTy2
import Derived.Test.YtmhmpobjjhbklaaGreatDoorOpOur3
set_option linter.unusedVariables false
set_option linter.unusedSimpArgs false
namespace Go.Proofs.YtmhmpobjjhbklaaGreatDoor
namespace St
def kindT : List UInt8 := [112, 97, 114, 97, 109, 32, 99, 111, 110, 115, 116, 32, 110, 117, 108, 108, 32, 117, 110, 32, 98, 105, 110, 32, 115, 101, 108, 101, 99, 116, 32, 108, 111, 97, 100, 32, 115, 116, 111, 114, 101, 32, 99, 104, 101, 99, 107, 32, 115, 105, 122, 101, 32, 103, 114, 111, 119, 32, 103, 108, 111, 98, 97, 108, 32, 115, 101, 116, 32, 99, 97, 108, 108, 32, 99, 97, 108, 108, 105, 110, 32, 114, 101, 102, 32, 105, 115, 110, 117, 108, 108, 32, 98, 117, 108, 107, 32, 116, 97, 98, 32, 102, 117, 101, 108]
def endT : List UInt8 := [106, 117, 109, 112, 32, 105, 102, 32, 115, 119, 105, 116, 99, 104, 32, 114, 101, 116, 117, 114, 110, 32, 116, 114, 97, 112]
def kindW : List (List UInt8) := Lib.fieldsD kindT
def endW : List (List UInt8) := Lib.fieldsD endT
def word (l : List (List UInt8)) (i : Int) : List UInt8 × Bool := if 0 ≤ i ∧ i < l.length then (l.getD i.toNat [], true) else ([], false)
def ne (s : List UInt8) : Bool := !(s == [])
/-- The words that are not empty, between single blanks. -/
def join (l : List (List UInt8)) : List UInt8 := Lib.join (l.filter ne) [32]
def number (label : List UInt8) (n : Int) : List UInt8 := if n = 0 then [] else label ++ [32] ++ Lib.itoa n
def row (l : List Int) : List UInt8 := Lib.join (l.map Lib.itoa) [32]
def list (label : List UInt8) (l : List Int) : List UInt8 := if l = [] then [] else join [label, row l]
def InR (z : Int) : Prop := -9223372036854775808 ≤ z ∧ z ≤ 9223372036854775807
theorem dec_len (k : Nat) : ∀ u : Nat, u < 10 ^ (k + 1) → (Lib.decDigits u).length ≤ k + 1 := by
  induction k with
  | zero => intro u h; rw [Lib.decDigits, dif_pos (by simpa using h)]; simp
  | succ k ih =>
    intro u h
    rw [Lib.decDigits]
    split
    · simp
    · have := ih (u / 10) (by rw [Nat.div_lt_iff_lt_mul (by omega)]; rw [Nat.pow_succ] at h; exact h)
      simp; omega
theorem itoa_len {z : Int} (h : InR z) : (Lib.itoa z).length ≤ 20 := by
  unfold InR at h
  unfold Lib.itoa
  split
  · have := dec_len 18 z.natAbs (by omega)
    simp; omega
  · have := dec_len 18 z.toNat (by omega)
    omega
theorem dec20 {u : Nat} (h : u < 18446744073709551616) : (Lib.decDigits u).length ≤ 20 := dec_len 19 u (by omega)
theorem itoa_ne (z : Int) : Lib.itoa z ≠ [] := by
  have hd : ∀ u, Lib.decDigits u ≠ [] := fun u => by rw [Lib.decDigits]; split <;> simp
  unfold Lib.itoa
  split
  · simp
  · exact hd _
theorem joinl_len (m : Nat) : ∀ (l : List (List UInt8)), (∀ s ∈ l, s.length ≤ m) → (Lib.join l [32]).length ≤ (m + 1) * l.length
  | [], _ => by simp [Lib.join, List.intercalate]
  | s :: l, h => by
    rw [Lib.join_cons]
    have h1 := h s (by simp)
    have : ∀ l : List (List UInt8), (∀ s ∈ l, s.length ≤ m) → (Lib.joinTail [32] l).length ≤ (m + 1) * l.length := by
      intro l
      induction l with
      | nil => intro _; simp [Lib.joinTail]
      | cons a l ih =>
        intro h
        have ha := h a (by simp)
        have := ih fun s hs => h s (by simp [hs])
        simp only [Lib.joinTail, List.map_cons, List.flatten_cons, List.length_append, List.length_cons, List.length_nil] at this ⊢
        rw [Nat.mul_add]; omega
    have := this l fun s hs => h s (by simp [hs])
    rw [List.length_append, List.length_cons, Nat.mul_add]; omega
theorem row_len {l : List Int} (h : ∀ z ∈ l, InR z) : (row l).length ≤ 21 * l.length := by
  have := joinl_len 20 (l.map Lib.itoa) fun s hs => by
    obtain ⟨z, hz, rfl⟩ := List.mem_map.1 hs
    exact itoa_len (h z hz)
  simpa [row] using this
theorem join_len (l : List (List UInt8)) (m : Nat) (h : ∀ s ∈ l, s.length ≤ m) : (join l).length ≤ (m + 1) * l.length := by
  have h1 := joinl_len m (l.filter ne) fun s hs => h s (List.mem_filter.1 hs).1
  have h2 := List.length_filter_le ne l
  unfold join
  exact Nat.le_trans h1 (Nat.mul_le_mul_left _ h2)
end St
open Go.RowKit
open St (InR)
def encZ (z : Int) : List Value := [.int .i64 z]
theorem encZ_len (z : Int) : (encZ z).length = 1 := rfl
theorem encZ_one (z : Int) : ∀ u ∈ encZ z, u.oneCell' = true := by simp [encZ, Value.oneCell']
theorem flatS (l : List (List UInt8)) : l.flatMap encS = strs l := by
  induction l with
  | nil => rfl
  | cons x l ih => rw [List.flatMap_cons, ih]; rfl

/-- strings.Join of a row of the call's own. -/
theorem sjoins_any (base : Nat) (A : Option Addr) (n cr : Nat) (l : List (List UInt8)) (sep : List UInt8) (w : World) (hn : l.length = n) (hown : w.ownsRow base 9 1 (.slice A n cr) n (l.flatMap encS)) (hl : n ≤ 1000000000) (hs : (Lib.join l sep).length ≤ 1000000000) :
    Calls Tryz.prog 22 #[.slice A n cr, .string ⟨sep.toArray⟩] w fun e w' => e = .returned (.string ⟨(Lib.join l sep).toArray⟩) ∧ Below w.heap.size w w' := by
  rw [flatS] at hown
  subst hn
  by_cases h0 : l = []
  · subst h0
    refine (Tryz.strings_Join_none A cr ⟨sep.toArray⟩ w).mono ?_
    rintro e w1 ⟨rfl, rfl⟩
    exact ⟨rfl, Below.refl _ _⟩
  · have hp : 0 < l.length := List.length_pos_iff.2 h0
    obtain ⟨hcap, _⟩ := own_cap hown
    obtain ⟨g, cap, hv, _, hlt⟩ := hown.form hp
    injection hv with hA _ hc
    subst hA hc
    have e1 : (l.map (fun t => (⟨t.toArray⟩ : ByteArray))).map (·.data.toList) = l := by simp [Function.comp_def]
    have := Tryz.strings_Join g 0 cr (l.map (fun t => (⟨t.toArray⟩ : ByteArray))) ⟨sep.toArray⟩ w (by
      intro j x hx
      have hjl : j < l.length := by
        rcases Nat.lt_or_ge j l.length with h | h
        · exact h
        · rw [List.getElem?_eq_none (by simpa using h)] at hx; cases hx
      rw [Nat.zero_add, hown.cellAt j (by omega)]
      simp [hjl] at hx
      subst hx
      simp [strs, hjl]) hlt (by simp; omega) (by simpa using hcap) (by rw [e1]; show (Lib.join l sep).length ≤ _; omega)
    rw [e1, List.length_map] at this
    exact this

/-- stext.word. -/
theorem sword_any (t : List UInt8) (ht : t.length ≤ 1000) (L : List (List UInt8)) (hL : Lib.fieldsD t = L) (i : Int) (w : World) (G : Glob w) : Calls Tryz.prog 46 #[.string ⟨t.toArray⟩, .int .i64 i] w fun e w' => e = .returned (.tuple #[.string ⟨(St.word L i).1.toArray⟩, .bool (St.word L i).2]) ∧ Below w.heap.size w w' := by
  have HF := Lib.hid (fun W (G : Glob W) => fields_any t (by omega) W G)
  rw [hL] at HF
  clear hL
  by_cases h0 : i < 0
  · have hx : St.word L i = ([], false) := if_neg (by omega)
    have HX := Lib.hid hx
    clear hx
    go_enter Tryz.func46, Tryz.ntmps46
    go_wp2_with (go_at_call 66; refine (HF.out _ G).mono ?_; rintro e w1 ⟨⟨A, rfl, hrd⟩, hb⟩)
    go_ret2
    exact ⟨by rw [HX.out]; rfl, hb⟩
  · obtain ⟨n, rfl⟩ : ∃ n : Nat, i = n := ⟨i.toNat, by omega⟩
    by_cases h1 : n < L.length
    · have hx : St.word L n = (L[n], true) := by unfold St.word; rw [if_pos (by omega)]; simp [h1]
      have HX := Lib.hid hx
      have x1 : ¬ (L.length : Int) ≤ (n : Int) := by omega
      have x2 : (n : Int) < (L.length : Int) := by omega
      have x3 : ¬ L.length ≤ n := by omega
      have x4 : (0 : Int) ≤ (n : Int) := by omega
      clear hx
      go_enter Tryz.func46, Tryz.ntmps46
      go_wp2_with (go_at_call 66; refine (HF.out _ G).mono ?_; rintro e w1 ⟨⟨A, rfl, hrd⟩, hb⟩; obtain ⟨g, o, rfl, hg, hc⟩ := hrd.get h1; have f0 := hc 0 _ rfl; rw [Nat.add_zero, Nat.mul_one] at f0)
      go_ret2
      exact ⟨by rw [HX.out]; rfl, hb⟩
    · have hx : St.word L n = ([], false) := if_neg (by omega)
      have HX := Lib.hid hx
      have x1 : (L.length : Int) ≤ (n : Int) := by omega
      have x3 : L.length ≤ n := by omega
      clear hx
      go_enter Tryz.func46, Tryz.ntmps46
      go_wp2_with (go_at_call 66; refine (HF.out _ G).mono ?_; rintro e w1 ⟨⟨A, rfl, hrd⟩, hb⟩)
      go_ret2
      exact ⟨by rw [HX.out]; rfl, hb⟩

/-- stext.number. -/
theorem snumber_any (label : List UInt8) (hl : label.length ≤ 1000) (z : Int) (hz : InR z) (w : World) (G : Glob w) : Calls Tryz.prog 53 #[.string ⟨label.toArray⟩, .int .i64 z] w fun e w' => e = .returned (.string ⟨(St.number label z).toArray⟩) ∧ Below w.heap.size w w' := by
  by_cases h0 : z = 0
  · subst h0
    go_enter Tryz.func53, Tryz.ntmps53
    go_wp2
    go_ret
    exact ⟨rfl, Below.refl _ _⟩
  · have hx : St.number label z = label ++ [32] ++ Lib.itoa z := if_neg h0
    have HX := Lib.hid hx
    have d0 : (z == 0) = false := by simpa using h0
    have hil := St.itoa_len hz
    have HI := Lib.hid (itoa_any z hz.1 hz.2 w G.tab)
    obtain ⟨s, hs⟩ : ∃ s, Lib.itoa z = s := ⟨_, rfl⟩
    rw [hs] at hil HI HX
    have z1 : (ByteArray.mk label.toArray).size = label.length := by simp [ByteArray.size]
    have z2 : (ByteArray.mk s.toArray).size = s.length := by simp [ByteArray.size]
    have x5 : ¬ 9223372036854775807 < label.length + 1 := by omega
    have x6 : ¬ 9223372036854775807 < label.length + 1 + s.length := by omega
    have e3 : (ByteArray.mk label.toArray ++ ByteArray.mk #[32] ++ ByteArray.mk s.toArray) = ByteArray.mk (label ++ [32] ++ s).toArray := by apply ByteArray.ext; simp
    have HE := Lib.hid e3
    clear hx hs e3 hz
    go_enter Tryz.func53, Tryz.ntmps53
    go_wp2_with (go_at_call 50; refine HI.out.mono ?_; rintro e w1 ⟨rfl, hb⟩)
    go_ret
    exact ⟨by rw [HX.out, ← HE.out]; rfl, hb⟩
end Go.Proofs.YtmhmpobjjhbklaaGreatDoor
