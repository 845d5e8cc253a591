/-
  Find, Label and Names of a Scope.
-/
import Derived.Test.YtbnddnoognoekaaScopeAdd2
import Derived.Test.YtbnddnoognoekaaScopeNat
import Derived.Test.YtbnddnoognoekaaStrs
set_option linter.unusedVariables false
namespace Go.Proofs.Ytbnddnoognoekaa
open Go.RowKit Go.Maps

theorem pre_yes (t : Nm) (h : t.head? = some 36) (W : World) (hl : t.length ≤ 1000000) : Calls Try.prog 32 #[.string ⟨t.toArray⟩, .string ⟨#[36]⟩] W fun e w' => e = .returned (.bool true) ∧ W = w' := by
  refine (hasPrefix_any t [36] W (by omega) (by simp)).mono ?_
  rintro e' w' ⟨rfl, rfl⟩
  refine ⟨congrArg (fun b => Ending.returned (Value.bool b)) ?_, rfl⟩
  cases t with
  | nil => simp at h
  | cons c r => simp at h; subst h; simp
theorem pre_no (t : Nm) (h : t.head? ≠ some 36) (W : World) (hl : t.length ≤ 1000000) : Calls Try.prog 32 #[.string ⟨t.toArray⟩, .string ⟨#[36]⟩] W fun e w' => e = .returned (.bool false) ∧ W = w' := by
  refine (hasPrefix_any t [36] W (by omega) (by simp)).mono ?_
  rintro e' w' ⟨rfl, rfl⟩
  refine ⟨congrArg (fun b => Ending.returned (Value.bool b)) ?_, rfl⟩
  cases t with
  | nil => simp
  | cons c r => simp at h; simp [h]

def finF (o : Option Nat) : Int × Int := match o with | some i => ((i : Int), 0) | none => (0, 24)

set_option maxHeartbeats 1000000 in
set_option maxRecDepth 100000 in
theorem find_dollar {W : World} {B s : Nat} {y : Lay} {σ : SSt} (h : ScopeAt W B s y σ) (k : Int) (hk : (Lit.int .i64 k).wf = true) (t : Nm) (hr : 0 ≤ k ∧ k < 9) (ht : t.head? = some 36) (hl : t.length ≤ 1000000) :
    Calls Try.prog 14 #[.pointer (some ⟨s, 0, none⟩), .int .i64 k, .string ⟨t.toArray⟩] W fun e w' => e = .returned (.tuple #[.int .i64 (finF (Sc.find (σ.k k.toNat) t)).1, .int .i64 (finF (Sc.find (σ.k k.toNat) t)).2]) ∧ W = w' := by
  have ho := of_any h k hk
  unfold ofF at ho
  rw [if_pos hr] at ho
  have HO := Lib.hid ho
  have hc0 := scope_cell0 h
  have hK := h.kind k.toNat (by omega)
  have hc2 := kind_cell2 hK
  obtain ⟨n, _, hm⟩ := hK.map
  have hlk := hm.look (t := 63) keyed_str Try.underlying63 (zero_int W) (key_str t hl) true
  rw [atF_str] at hlk
  have HP := Lib.hid (pre_yes t ht W hl)
  cases hf : Sc.find (σ.k k.toNat) t with
  | none =>
    rw [hf] at hlk
    simp only [if_true, Option.map_none, Option.getD_none, Option.isSome_none] at hlk
    clear ho hr ht hf hm hK
    go_enter Try.func14, Try.ntmps14
    go_wp2_with (first
      | (go_at_call 29; refine (made_yes s y.a _ hc0).mono ?_; rintro e w1 ⟨rfl, rfl⟩)
      | (go_at_call 30; refine HO.out.mono ?_; rintro e w1 ⟨rfl, rfl⟩)
      | (go_at_call 32; refine HP.out.mono ?_; rintro e w1 ⟨rfl, rfl⟩))
    go_ret2
    exact ⟨rfl, rfl⟩
  | some i =>
    rw [hf] at hlk
    simp only [if_true, Option.map_some, Option.getD_some, Option.isSome_some] at hlk
    clear ho hr ht hf hm hK
    go_enter Try.func14, Try.ntmps14
    go_wp2_with (first
      | (go_at_call 29; refine (made_yes s y.a _ hc0).mono ?_; rintro e w1 ⟨rfl, rfl⟩)
      | (go_at_call 30; refine HO.out.mono ?_; rintro e w1 ⟨rfl, rfl⟩)
      | (go_at_call 32; refine HP.out.mono ?_; rintro e w1 ⟨rfl, rfl⟩))
    go_ret2
    exact ⟨rfl, rfl⟩
set_option maxHeartbeats 1000000 in
set_option maxRecDepth 100000 in
theorem find_plain {W : World} {B s : Nat} {y : Lay} {σ : SSt} (h : ScopeAt W B s y σ) (k : Int) (hk : (Lit.int .i64 k).wf = true) (t : Nm) (hr : 0 ≤ k ∧ k < 9) (ht : t.head? ≠ some 36) (hl : t.length ≤ 1000000) (a b : Int)
    (hN : Calls Try.prog 33 #[.string ⟨t.toArray⟩, .int .i64 4294967295] W fun e w' => e = .returned (.tuple #[.int .i64 a, .int .i64 b]) ∧ W = w') :
    Calls Try.prog 14 #[.pointer (some ⟨s, 0, none⟩), .int .i64 k, .string ⟨t.toArray⟩] W fun e w' => e = .returned (.tuple #[.int .i64 a, .int .i64 b]) ∧ W = w' := by
  have ho := of_any h k hk
  unfold ofF at ho
  rw [if_pos hr] at ho
  have HO := Lib.hid ho
  have hc0 := scope_cell0 h
  have HP := Lib.hid (pre_no t ht W hl)
  have HN := Lib.hid hN
  clear ho hr ht hN
  go_enter Try.func14, Try.ntmps14
  go_wp2_with (first
    | (go_at_call 29; refine (made_yes s y.a _ hc0).mono ?_; rintro e w1 ⟨rfl, rfl⟩)
    | (go_at_call 30; refine HO.out.mono ?_; rintro e w1 ⟨rfl, rfl⟩)
    | (go_at_call 32; refine HP.out.mono ?_; rintro e w1 ⟨rfl, rfl⟩)
    | (go_at_call 33; refine HN.out.mono ?_; rintro e w1 ⟨rfl, rfl⟩))
  go_ret2
  exact ⟨rfl, rfl⟩

/-- The label that a word names: its distance from the innermost one. -/
def labF (lab : List Nm) (t : Nm) : Option Nat := lab.reverse.findIdx? (fun x => x == t)
theorem labF_none {lab : List Nm} {t : Nm} (h : ∀ j (hj : j < lab.length), lab[lab.length - 1 - j]'(by omega) ≠ t) : labF lab t = none := by
  unfold labF
  rw [List.findIdx?_eq_none_iff]
  intro x hx
  obtain ⟨i, hi, rfl⟩ := List.getElem_of_mem hx
  simp at hi
  have := h i (by simpa using hi)
  rw [List.getElem_reverse]
  simpa using this
theorem labF_some {lab : List Nm} {t : Nm} {n : Nat} (hn : n < lab.length) (h : ∀ j (hj : j < n), lab[lab.length - 1 - j]'(by omega) ≠ t) (he : lab[lab.length - 1 - n]'(by omega) = t) : labF lab t = some n := by
  unfold labF
  rw [List.findIdx?_eq_some_iff_getElem]
  refine ⟨by simpa using hn, by rw [List.getElem_reverse]; simpa using he, fun j hj => ?_⟩
  rw [List.getElem_reverse]
  simpa using h j hj

set_option maxHeartbeats 1000000 in
set_option maxRecDepth 100000 in
theorem label_dollar {W : World} {B s : Nat} {y : Lay} {σ : SSt} (h : ScopeAt W B s y σ) (t : Nm) (ht : t.head? = some 36) (hl : t.length ≤ 1000000) (hll : σ.lab.length ≤ 1000000) :
    Calls Try.prog 12 #[.pointer (some ⟨s, 0, none⟩), .string ⟨t.toArray⟩] W fun e w' => e = .returned (.tuple #[.int .i64 (finF (labF σ.lab t)).1, .int .i64 (finF (labF σ.lab t)).2]) ∧ ∃ q, w' = W.drewN q := by
  have hc0 := scope_cell0 h
  have hc1 := scope_cell1 h
  have HP := Lib.hid (pre_yes t ht W hl)
  have hown := h.labs
  obtain ⟨A, cap, hv⟩ : ∃ A cap, y.lv = .slice A σ.lab.length cap := by
    rcases hown.2 with ⟨h1, h2⟩ | ⟨g, cap, cur, h1, _⟩
    · exact ⟨none, 0, by rw [h1, h2]⟩
    · exact ⟨_, cap, h1⟩
  rw [hv] at hc1 hown
  obtain ⟨lab, hlab⟩ : ∃ lab, σ.lab = lab := ⟨_, rfl⟩
  rw [hlab] at hc1 hown hll ⊢
  have HH := Lib.hid h
  clear ht h hv
  go_enter Try.func12, Try.ntmps12
  go_wp2_with (first
    | (go_at_call 29; refine (made_yes s y.a _ hc0).mono ?_; rintro e w1 ⟨rfl, rfl⟩)
    | (go_at_call 32; refine HP.out.mono ?_; rintro e w1 ⟨rfl, rfl⟩))
  go_loopw [22] (fun i wr => ∃ (k q : Nat), k ≤ lab.length ∧ i = .int .i64 k ∧ wr = W.drewN q ∧ ∀ j (hj : j < k) (hk : k ≤ lab.length), lab[lab.length - 1 - j]'(by omega) ≠ t) (fun i _ => lab.length - (intOf i).toNat)
  case atStart => exact ⟨0, 0, by omega, rfl, rfl, fun j hj => by omega⟩
  case round =>
    obtain ⟨k, q, hk, rfl, rfl, hno⟩ := hrel
    by_cases hkl : k < lab.length
    · obtain ⟨m, hm⟩ : ∃ m, m = lab.length - 1 - k := ⟨_, rfl⟩
      have hml : m < lab.length := by omega
      obtain ⟨g, cap', hv', _, _⟩ := hown.form (by omega)
      injection hv' with hA _ hcc
      subst hA hcc
      have hcell : W.cell? ⟨g, m, none⟩ = some (str lab[m]) := by
        have := hown.cellAt m (by omega)
        rw [this]
        simp [hml]
      obtain ⟨x, hx⟩ : ∃ x, lab[m] = x := ⟨_, rfl⟩
      rw [hx] at hcell
      unfold str at hcell
      have q1 : IntKind.i64.wrap ((lab.length : Int) - 1) = (lab.length : Int) - 1 := by rw [IntKind.wrap_i64]; omega
      have q2 : IntKind.i64.wrap ((lab.length : Int) - 1 - (k : Int)) = (m : Int) := by rw [IntKind.wrap_i64]; omega
      have q3 : (0 : Int) ≤ (m : Int) := Int.natCast_nonneg _
      have q4 : (m : Int) < (lab.length : Int) := by omega
      have HNO := Lib.hid hno
      have HM := Lib.hid hm
      have HXX := Lib.hid hx
      clear hno hm hx hown
      rcases hb : (x == t) with _ | _
      · go_wp2_with fail
        go_quiet (fail)
        go_wp2
        go_roundw
        case rel =>
          refine ⟨k + 1, _, by omega, by go_num, by first | rfl | rw [World.drewN_drewN], fun j hj hk' => ?_⟩
          by_cases hjk : j < k
          · exact HNO.out j hjk (by omega)
          · have hm := HM.out
            obtain rfl : j = k := by omega
            have : lab[lab.length - 1 - j]'(by omega) = x := by rw [← HXX.out]; congr 1; exact hm.symm
            rw [this]
            simpa using hb
        case measure => simp [intOf]; omega
      · go_wp2_with fail
        go_quiet (fail)
        go_wp2
        go_ret2
        have hm := HM.out
        have he : labF lab t = some k := labF_some hkl (fun j hj => HNO.out j hj (by omega)) (by
          have : lab[lab.length - 1 - k]'(by omega) = x := by rw [← HXX.out]; congr 1; exact hm.symm
          rw [this]
          simpa using hb)
        rw [he]
        exact ⟨rfl, _, by first | rfl | rw [World.drewN_drewN]⟩
    · obtain rfl : k = lab.length := by omega
      have he : labF lab t = none := labF_none (fun j hj => hno j hj (Nat.le_refl _))
      have HE := Lib.hid he
      clear hno hown he
      go_wp2_with fail
      go_ret2
      rw [HE.out]
      exact ⟨rfl, _, rfl⟩

theorem nm_one (l : List (Nat × Nm)) : ∀ u ∈ nmCells l, u.oneCell' = true := by
  intro u hu
  simp only [nmCells, List.mem_flatMap] at hu
  obtain ⟨p, _, hu⟩ := hu
  simp at hu
  rcases hu with rfl | rfl <;> rfl
set_option maxHeartbeats 1000000 in
set_option maxRecDepth 100000 in
theorem names_any {W : World} {B s : Nat} {y : Lay} {σ : SSt} (h : ScopeAt W B s y σ) (k : Int) (hk : (Lit.int .i64 k).wf = true) (hr : 0 ≤ k ∧ k < 9) (hlen : (σ.k k.toNat).length ≤ 1000000) :
    Calls Try.prog 27 #[.pointer (some ⟨s, 0, none⟩), .int .i64 k] W fun e w' => ∃ A c, e = .returned (.slice A (Sc.nms (σ.k k.toNat)).length c) ∧
      w'.ownsRow W.heap.size 61 2 (.slice A (Sc.nms (σ.k k.toNat)).length c) (Sc.nms (σ.k k.toNat)).length (nmCells (Sc.nms (σ.k k.toNat))) ∧ Below W.heap.size W w' := by
  have ho := of_any h k hk
  unfold ofF at ho
  rw [if_pos hr] at ho
  have HO := Lib.hid ho
  have hK := h.kind k.toNat (by omega)
  have hc1 := kind_cell1 hK
  have hrow := hK.row
  have hnl := Sc.nms_len (σ.k k.toNat)
  obtain ⟨i0, hi0, hz0, hz1, hz2⟩ := info_parts info_name
  obtain ⟨L, hL⟩ : ∃ L, Sc.nms (σ.k k.toNat) = L := ⟨_, rfl⟩
  rw [hL] at hrow hnl ⊢
  obtain ⟨A, cap, hv⟩ : ∃ A cap, y.nv k.toNat = .slice A L.length cap := by
    rcases hrow.2 with ⟨h1, h2⟩ | ⟨g, cap, cur, h1, _⟩
    · exact ⟨none, 0, by rw [h1, h2]⟩
    · exact ⟨_, cap, h1⟩
  rw [hv] at hc1 hrow
  have hrd := Reads.of_own hrow
  have hnil : W.ownsRow W.heap.size 61 2 (.slice none 0 0) 0 [] := nil_row _ _ _ _
  have HK := Lib.hid hK
  clear ho hr hK hrow hv
  go_enter Try.func27, Try.ntmps27
  go_wp2_with (first
    | (go_at_call 30; refine HO.out.mono ?_; rintro e w1 ⟨rfl, rfl⟩)
    | (at_builtin; (refine wpList_append_any _ rfl _ (.tmp 14) 53 rfl W.heap.size 61 i0 _ 2 24 Try.underlying53 hi0 hz0 hz1 hz2 rfl (by omega) _ 0 [] rfl hnil W.heap.size A L.length cap (nmCells L) rfl hrd (nm_one L) (by unfold maxLen; omega) (by omega) (Nat.le_refl _) ?_); intro v2 w2 hown2 hg2 hat2))
  rw [Nat.zero_add, List.nil_append] at hown2
  obtain ⟨A2, c2, rfl, _, _⟩ := own_slice hown2
  go_wp2_with fail
  go_ret
  exact ⟨A2, c2, rfl, hown2, below_own hnil hg2 (Nat.le_refl _)⟩
end Go.Proofs.Ytbnddnoognoekaa
