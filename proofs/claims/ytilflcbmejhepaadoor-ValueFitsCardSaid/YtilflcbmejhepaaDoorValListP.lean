/-
  Layer 27: lists, as plain functions.
-/
import Derived.Test.YtilflcbmejhepaaDoorValList2
set_option linter.unusedVariables false
namespace Go.Proofs.YtilflcbmejhepaaDoor.Val
open Go.Proofs.YtilflcbmejhepaaDoor

def fit : List V → List Int → Bool
  | [], [] => true
  | v :: l, t :: ts => right v && (v.t == t) && fit l ts
  | _, _ => false
def low (t : Int) (n : Nat) : Nat := if t = 1 then n % 4294967296 else n
def ofs : List Nat → List Int → List V
  | n :: l, t :: ts => ⟨t, low t n⟩ :: ofs l ts
  | _, _ => []
def ofv (l : List Nat) (ts : List Int) : List V := if l.length ≠ ts.length then [] else if ts.all valB = true then ofs l ts else []
theorem right_valB {v : V} (h : right v = true) : valB v.t = true := by
  rw [right_split] at h
  simp only [Bool.and_eq_true] at h
  exact h.1
theorem right_low {t : Int} {n : Nat} (h : valB t = true) : right ⟨t, low t n⟩ = true := by
  rw [right_split]
  simp only [h, Bool.true_and]
  unfold low
  by_cases ht : t = 1
  · subst ht; simp; omega
  · simp [ht]
theorem low_right {v : V} (h : right v = true) : low v.t v.n = v.n := by
  have := (right_iff v).1 h
  unfold low
  split
  · rename_i e; have := this.2.2 e; omega
  · rfl
theorem low_lt {t : Int} {n : Nat} (h : n < 18446744073709551616) : low t n < 18446744073709551616 := by unfold low; split <;> omega
theorem fit_len : ∀ {l : List V} {ts : List Int}, fit l ts = true → l.length = ts.length
  | [], [], _ => rfl
  | v :: l, t :: ts, h => by
    rw [fit] at h
    simp only [Bool.and_eq_true] at h
    simp [fit_len h.2]
  | [], t :: ts, h => by simp [fit] at h
  | v :: l, [], h => by simp [fit] at h
theorem fit_ofs : ∀ {l : List V} {ts : List Int}, fit l ts = true → ofs (l.map (·.n)) ts = l ∧ ts.all valB = true
  | [], [], _ => ⟨rfl, rfl⟩
  | v :: l, t :: ts, h => by
    rw [fit] at h
    simp only [Bool.and_eq_true, beq_iff_eq] at h
    obtain ⟨⟨h1, h2⟩, h3⟩ := h
    subst h2
    obtain ⟨i1, i2⟩ := fit_ofs h3
    rw [List.map_cons, ofs, i1, low_right h1, List.all_cons, right_valB h1, i2]
    exact ⟨rfl, rfl⟩
  | [], t :: ts, h => by simp [fit] at h
  | v :: l, [], h => by simp [fit] at h
/-- THE LAW: values that fit are rebuilt from their bits. -/
theorem fit_back {l : List V} {ts : List Int} (h : fit l ts = true) : ofv (l.map (·.n)) ts = l := by
  obtain ⟨h1, h2⟩ := fit_ofs h
  unfold ofv
  rw [if_neg (by simp [fit_len h]), if_pos h2, h1]
theorem ofs_fit : ∀ {l : List Nat} {ts : List Int}, l.length = ts.length → ts.all valB = true → fit (ofs l ts) ts = true
  | [], [], _, _ => rfl
  | n :: l, t :: ts, h, hv => by
    rw [List.all_cons, Bool.and_eq_true] at hv
    rw [ofs, fit, right_low hv.1, ofs_fit (by simpa using h) hv.2]
    simp
  | [], t :: ts, h, _ => by simp at h
  | n :: l, [], h, _ => by simp at h
/-- THE LAW: values built from bits fit their types. -/
theorem made_fit (l : List Nat) (ts : List Int) : ofv l ts = [] ∨ fit (ofv l ts) ts = true := by
  unfold ofv
  split
  · exact .inl rfl
  · rename_i h
    split
    · rename_i hv
      exact .inr (ofs_fit (by omega) hv)
    · exact .inl rfl
theorem ofs_lt : ∀ {l : List Nat} {ts : List Int}, (∀ n ∈ l, n < 18446744073709551616) → ∀ v ∈ ofs l ts, v.n < 18446744073709551616
  | [], _, _, v, hv => by simp [ofs] at hv
  | n :: l, [], _, v, hv => by simp [ofs] at hv
  | n :: l, t :: ts, h, v, hv => by
    rw [ofs] at hv
    rcases List.mem_cons.1 hv with rfl | hv
    · exact low_lt (h n (by simp))
    · exact ofs_lt (fun m hm => h m (by simp [hm])) v hv
theorem ofv_lt {l : List Nat} {ts : List Int} (h : ∀ n ∈ l, n < 18446744073709551616) : ∀ v ∈ ofv l ts, v.n < 18446744073709551616 := by
  unfold ofv
  repeat' split
  · simp
  · exact ofs_lt h
  · simp
theorem ofs_len : ∀ {l : List Nat} {ts : List Int}, (ofs l ts).length ≤ l.length
  | [], _ => by simp [ofs]
  | n :: l, [] => by simp [ofs]
  | n :: l, t :: ts => by rw [ofs]; have := ofs_len (l := l) (ts := ts); simp; omega
theorem ofv_len (l : List Nat) (ts : List Int) : (ofv l ts).length ≤ l.length := by
  unfold ofv
  repeat' split
  · simp
  · exact ofs_len
  · simp
end Go.Proofs.YtilflcbmejhepaaDoor.Val
