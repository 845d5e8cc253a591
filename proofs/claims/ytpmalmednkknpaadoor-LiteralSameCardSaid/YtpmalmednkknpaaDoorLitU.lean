/-
  Escapes: the plain words; simple and the reference's escaped.
-/
import Derived.Test.YtpmalmednkknpaaDoorLitRPut
import Derived.Test.YtpmalmednkknpaaDoorLitRMag
set_option linter.unusedVariables false
namespace Go.Proofs.YtpmalmednkknpaaDoor
open Go.RowKit

namespace Ltr
/-- The byte that a one-letter escape stands for. -/
def simp1 (c : UInt8) : Option UInt8 := if c = 116 then some 9 else if c = 110 then some 10 else if c = 114 then some 13 else if c = 34 ∨ c = 39 ∨ c = 92 then some c else none
def isH (c : UInt8) : Bool := decide (0 ≤ dig c)
def hrun (t : List UInt8) : List UInt8 := t.takeWhile isH
def hval (l : List UInt8) : Nat := l.foldl (fun n c => n * 16 + (dig c).toNat) 0
/-- A point behind 'u' and the opening brace: the bytes, the length from 'u' on, the error. -/
def pointF (t : List UInt8) : List UInt8 × Int × Int :=
  if (hrun t).length = 0 ∨ 6 < (hrun t).length ∨ (t.drop (hrun t).length).head? ≠ some 125 then ([], 0, 4)
  else if Lib.validRune (hval (hrun t)) then (Lib.encodeRune (hval (hrun t)), ((hrun t).length : Int) + 3, 0) else ([], 0, 9)
def pointS (r : List UInt8) : List UInt8 × Int × Int := match r with | 123 :: t => pointF t | _ => ([], 0, 4)
/-- An escape of two hexadecimal digits. -/
def escT (c : UInt8) (t : List UInt8) : List UInt8 × Int × Int :=
  match t with
  | [] => ([], 0, 4)
  | d :: _ => if dig c < 0 ∨ dig d < 0 then ([], 0, 4) else ([UInt8.ofNat (16 * (dig c).toNat + (dig d).toNat)], 2, 0)
/-- An escape behind the backslash. -/
def esc (r : List UInt8) : List UInt8 × Int × Int :=
  match r with
  | [] => ([], 0, 4)
  | c :: t => match simp1 c with
    | some d => ([d], 1, 0)
    | none => if c = 117 then pointS t else escT c t
theorem hrun_le (t : List UInt8) : (hrun t).length ≤ t.length := by
  have := (List.takeWhile_prefix isH (l := t)).length_le
  exact this
theorem hrun_at (t : List UInt8) (k : Nat) (h : k < (hrun t).length) : ∃ h1 : k < t.length, (hrun t)[k] = t[k] ∧ 0 ≤ dig t[k] := by
  have hl := hrun_le t
  have hp := List.takeWhile_prefix isH (l := t)
  have he : (hrun t)[k] = t[k]'(by omega) := (List.prefix_iff_getElem.1 hp).2 k h
  refine ⟨by omega, he, ?_⟩
  have hm : (hrun t)[k] ∈ hrun t := List.getElem_mem h
  have := List.all_eq_true.1 (List.all_takeWhile (p := isH) (l := t)) _ hm
  rw [he] at this
  simpa [isH] using this
theorem hrun_end (t : List UInt8) (h : (hrun t).length < t.length) : dig (t[(hrun t).length]) < 0 := by
  have : ∀ (t : List UInt8) (h : (hrun t).length < t.length), dig (t[(hrun t).length]) < 0 := by
    intro t
    induction t with
    | nil => intro h; simp at h
    | cons c r ih =>
      intro h
      by_cases hc : isH c = true
      · have e : hrun (c :: r) = c :: hrun r := by simp [hrun, hc]
        simp only [e, List.length_cons, List.getElem_cons_succ]
        exact ih (by rw [e] at h; simpa using h)
      · have e : hrun (c :: r) = [] := by simp [hrun, hc]
        simp only [e, List.length_nil, List.getElem_cons_zero]
        simpa [isH] using hc
  exact this t h
theorem hval_snoc (l : List UInt8) (c : UInt8) : hval (l ++ [c]) = hval l * 16 + (dig c).toNat := by simp [hval]
theorem hval_lt (l : List UInt8) : hval l < 16 ^ l.length := by
  have : ∀ k (l : List UInt8), l.length = k → hval l < 16 ^ k := by
    intro k
    induction k with
    | zero => intro l h; rw [List.eq_nil_of_length_eq_zero h]; simp [hval]
    | succ k ih =>
      intro l h
      have hne : l ≠ [] := by intro e; subst e; simp at h
      have e := (List.dropLast_concat_getLast hne).symm
      have hl : l.dropLast.length = k := by simp; omega
      have := ih _ hl
      rw [e, hval_snoc, Nat.pow_succ]
      have hd := dig_le (l.getLast hne)
      omega
  exact this _ l rfl
theorem hrun_take (t : List UInt8) : hrun t = t.take (hrun t).length := List.prefix_iff_eq_take.1 (List.takeWhile_prefix isH)
theorem pointF_bad (t : List UInt8) (h : (hrun t).length = 0 ∨ 6 < (hrun t).length ∨ (t.drop (hrun t).length).head? ≠ some 125) : pointF t = ([], 0, 4) := by unfold pointF; rw [if_pos h]
theorem pointF_ok (t : List UInt8) (h0 : (hrun t).length ≠ 0) (h6 : (hrun t).length ≤ 6) (hx : (t.drop (hrun t).length).head? = some 125) :
    pointF t = if Lib.validRune (hval (t.take (hrun t).length)) then (Lib.encodeRune (hval (t.take (hrun t).length)), ((hrun t).length : Int) + 3, 0) else ([], 0, 9) := by
  unfold pointF
  rw [if_neg (by rintro (h | h | h); exact h0 h; omega; exact h hx), ← hrun_take]
theorem or4_nat (a d : Nat) (h : d < 16) : a * 16 ||| d = a * 16 + d := by
  have := Nat.two_pow_add_eq_or_of_lt (i := 4) (by simpa using h) a
  rw [show (2 : Nat) ^ 4 = 16 from rfl, Nat.mul_comm 16 a] at this
  exact this.symm
end Ltr

def RetU8 (o : Option UInt8) (w : World) (e : Ending) (w' : World) : Prop := e = .returned (.tuple #[.int .u8 ((o.getD 0).toNat : Int), .bool o.isSome]) ∧ w = w'
set_option maxHeartbeats 1000000 in
set_option maxRecDepth 100000 in
theorem simple_any (c : UInt8) (w : World) : Calls Tryd.prog 32 #[.int .u8 (c.toNat : Int)] w (RetU8 (Ltr.simp1 c) w) := by
  unfold Ltr.simp1
  have key : ∀ n : Nat, n < 256 → c ≠ UInt8.ofNat n → ((c.toNat : Int) == (n : Int)) = false := fun n hn h => lcne c n hn h
  by_cases h1 : c = 116
  · subst h1
    go_enter Tryd.func32, Tryd.ntmps32
    go_wp2
    go_ret2
    exact ⟨rfl, rfl⟩
  have n1 := key 116 (by omega) h1
  by_cases h2 : c = 110
  · subst h2
    clear key
    go_enter Tryd.func32, Tryd.ntmps32
    go_wp2
    go_ret2
    exact ⟨rfl, rfl⟩
  have n2 := key 110 (by omega) h2
  by_cases h3 : c = 114
  · subst h3
    clear key n1 n2
    go_enter Tryd.func32, Tryd.ntmps32
    go_wp2
    go_ret2
    exact ⟨rfl, rfl⟩
  have n3 := key 114 (by omega) h3
  by_cases h4 : c = 34
  · subst h4
    clear key n1 n2 n3
    go_enter Tryd.func32, Tryd.ntmps32
    go_wp2
    go_ret2
    exact ⟨rfl, rfl⟩
  have n4 := key 34 (by omega) h4
  by_cases h5 : c = 39
  · subst h5
    clear key n1 n2 n3 n4
    go_enter Tryd.func32, Tryd.ntmps32
    go_wp2
    go_ret2
    exact ⟨rfl, rfl⟩
  have n5 := key 39 (by omega) h5
  by_cases h6 : c = 92
  · subst h6
    clear key n1 n2 n3 n4 n5
    go_enter Tryd.func32, Tryd.ntmps32
    go_wp2
    go_ret2
    exact ⟨rfl, rfl⟩
  have n6 := key 92 (by omega) h6
  rw [if_neg h1, if_neg h2, if_neg h3, if_neg (by simp [h4, h5, h6])]
  clear key h1 h2 h3 h4 h5 h6
  simp only [Int.cast_ofNat_Int] at n1 n2 n3 n4 n5 n6
  go_enter Tryd.func32, Tryd.ntmps32
  go_wp2
  go_ret2
  exact ⟨rfl, rfl⟩

def escI (o : Option UInt8) : Int := match o with | some d => (d.toNat : Int) | none => -1
set_option maxHeartbeats 1000000 in
set_option maxRecDepth 100000 in
theorem escaped_any (c : UInt8) (w : World) : Calls Tryd.prog 35 #[.int .u8 (c.toNat : Int)] w fun e w' => e = .returned (.int .i64 (escI (Ltr.simp1 c))) ∧ w = w' := by
  unfold Ltr.simp1
  have key : ∀ n : Nat, n < 256 → c ≠ UInt8.ofNat n → ((c.toNat : Int) == (n : Int)) = false := fun n hn h => lcne c n hn h
  by_cases h1 : c = 116
  · subst h1
    go_enter Tryd.func35, Tryd.ntmps35
    go_wp2
    go_ret
    exact ⟨rfl, rfl⟩
  have n1 := key 116 (by omega) h1
  by_cases h2 : c = 110
  · subst h2
    clear key
    go_enter Tryd.func35, Tryd.ntmps35
    go_wp2
    go_ret
    exact ⟨rfl, rfl⟩
  have n2 := key 110 (by omega) h2
  by_cases h3 : c = 114
  · subst h3
    clear key n1 n2
    go_enter Tryd.func35, Tryd.ntmps35
    go_wp2
    go_ret
    exact ⟨rfl, rfl⟩
  have n3 := key 114 (by omega) h3
  by_cases h4 : c = 34
  · subst h4
    clear key n1 n2 n3
    go_enter Tryd.func35, Tryd.ntmps35
    go_wp2
    go_ret
    exact ⟨rfl, rfl⟩
  have n4 := key 34 (by omega) h4
  by_cases h5 : c = 39
  · subst h5
    clear key n1 n2 n3 n4
    go_enter Tryd.func35, Tryd.ntmps35
    go_wp2
    go_ret
    exact ⟨rfl, rfl⟩
  have n5 := key 39 (by omega) h5
  by_cases h6 : c = 92
  · subst h6
    clear key n1 n2 n3 n4 n5
    go_enter Tryd.func35, Tryd.ntmps35
    go_wp2
    go_ret
    exact ⟨rfl, rfl⟩
  have n6 := key 92 (by omega) h6
  rw [if_neg h1, if_neg h2, if_neg h3, if_neg (by simp [h4, h5, h6])]
  clear key h1 h2 h3 h4 h5 h6
  simp only [Int.cast_ofNat_Int] at n1 n2 n3 n4 n5 n6
  go_enter Tryd.func35, Tryd.ntmps35
  go_wp2
  go_ret
  exact ⟨rfl, rfl⟩
end Go.Proofs.YtpmalmednkknpaaDoor
