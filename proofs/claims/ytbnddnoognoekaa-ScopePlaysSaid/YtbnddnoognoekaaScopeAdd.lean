/-
  Add of a Scope: the ways without a new name.
-/
import Derived.Test.YtbnddnoognoekaaScopeTurn
import Derived.Test.YtbnddnoognoekaaScopeNew
import Derived.Test.YtbnddnoognoekaaLitName
set_option linter.unusedVariables false
namespace Go.Proofs.Ytbnddnoognoekaa
open Go.RowKit Go.Maps

theorem key_str (t : Nm) (h : t.length ≤ 1000000) : keyOf Try.prog 9 (.string ⟨t.toArray⟩) = some (.string t) := by
  have hs : (⟨t.toArray⟩ : ByteArray).size ≤ maxLen := by show t.toArray.size ≤ _; simp [maxLen]; omega
  simp [keyOf, Try.underlying9, mapKey, hs]
theorem atF_str (xs : List Nm) (t : Nm) : atF xs (.string t) = (Sc.find xs t).map (fun (i : Nat) => Value.int .i64 (i : Int)) := rfl
theorem str_ne (t : Nm) (h : t ≠ []) : (t == []) = false := by cases t <;> simp at h ⊢
theorem str_bne (t : Nm) (h : t ≠ []) : (t != []) = true := by cases t <;> simp at h ⊢

set_option maxHeartbeats 1000000 in
set_option maxRecDepth 100000 in
theorem add_arg {W : World} {B s : Nat} {y : Lay} {σ : SSt} (h : ScopeAt W B s y σ) (k : Int) (hk : (Lit.int .i64 k).wf = true) (t : Nm) (hr : ¬ (0 ≤ k ∧ k < 9)) :
    Calls Try.prog 9 #[.pointer (some ⟨s, 0, none⟩), .int .i64 k, .string ⟨t.toArray⟩] W fun e w' => e = .returned (.tuple #[.int .i64 0, .int .i64 1]) ∧ W = w' := by
  have ho := of_any h k hk
  unfold ofF at ho
  rw [if_neg hr] at ho
  have HO := Lib.hid ho
  have hc0 := scope_cell0 h
  clear ho hr
  go_enter Try.func9, Try.ntmps9
  go_wp2_with (first
    | (go_at_call 29; refine (made_yes s y.a _ hc0).mono ?_; rintro e w1 ⟨rfl, rfl⟩)
    | (go_at_call 30; refine HO.out.mono ?_; rintro e w1 ⟨rfl, rfl⟩))
  go_ret2
  exact ⟨rfl, rfl⟩
set_option maxHeartbeats 1000000 in
set_option maxRecDepth 100000 in
theorem add_name {W : World} {B s : Nat} {y : Lay} {σ : SSt} (h : ScopeAt W B s y σ) (k : Int) (hk : (Lit.int .i64 k).wf = true) (t : Nm) (hr : 0 ≤ k ∧ k < 9) (ht : t ≠ []) (hn : Ltr.name t = false) (hl : t.length ≤ 1000000) :
    Calls Try.prog 9 #[.pointer (some ⟨s, 0, none⟩), .int .i64 k, .string ⟨t.toArray⟩] W fun e w' => e = .returned (.tuple #[.int .i64 0, .int .i64 24]) ∧ W = w' := by
  have ho := of_any h k hk
  unfold ofF at ho
  rw [if_pos hr] at ho
  have HO := Lib.hid ho
  have hc0 := scope_cell0 h
  have hb : List.isEmpty t = false := by cases t <;> simp at ht ⊢
  have hnm : Hid (∀ W : World, Calls Try.prog 31 #[.string ⟨t.toArray⟩] W fun e w' => e = .returned (.bool false) ∧ W = w') := fun W => by have := lname_any t W (by omega); rw [hn] at this; exact this
  clear ho hr hn ht
  go_enter Try.func9, Try.ntmps9
  go_wp2_with (first
    | (go_at_call 29; refine (made_yes s y.a _ hc0).mono ?_; rintro e w1 ⟨rfl, rfl⟩)
    | (go_at_call 30; refine HO.out.mono ?_; rintro e w1 ⟨rfl, rfl⟩)
    | (go_at_call 31; refine (hnm.out _).mono ?_; rintro e w1 ⟨rfl, rfl⟩))
  go_ret2
  exact ⟨rfl, rfl⟩
set_option maxHeartbeats 1000000 in
set_option maxRecDepth 100000 in
theorem add_twice {W : World} {B s : Nat} {y : Lay} {σ : SSt} (h : ScopeAt W B s y σ) (k : Int) (hk : (Lit.int .i64 k).wf = true) (t : Nm) (hr : 0 ≤ k ∧ k < 9) (ht : t ≠ []) (hn : Ltr.name t = true) (hl : t.length ≤ 1000000) (i : Nat) (hi : Sc.find (σ.k k.toNat) t = some i) :
    Calls Try.prog 9 #[.pointer (some ⟨s, 0, none⟩), .int .i64 k, .string ⟨t.toArray⟩] W fun e w' => e = .returned (.tuple #[.int .i64 0, .int .i64 21]) ∧ W = w' := by
  have ho := of_any h k hk
  unfold ofF at ho
  rw [if_pos hr] at ho
  have HO := Lib.hid ho
  have hc0 := scope_cell0 h
  have hb : List.isEmpty t = false := by cases t <;> simp at ht ⊢
  have hK := h.kind k.toNat (by omega)
  have hc2 := kind_cell2 hK
  obtain ⟨n, _, hm⟩ := hK.map
  have hlk := hm.look (t := 63) keyed_str Try.underlying63 (zero_int W) (key_str t hl) true
  have ha : atF (σ.k k.toNat) (.string t) = some (.int .i64 (i : Int)) := by rw [atF_str, hi]; rfl
  rw [ha] at hlk
  simp only [if_true, Option.getD_some, Option.isSome_some] at hlk
  have hnm : Hid (∀ W : World, Calls Try.prog 31 #[.string ⟨t.toArray⟩] W fun e w' => e = .returned (.bool true) ∧ W = w') := fun W => by have := lname_any t W (by omega); rw [hn] at this; exact this
  clear ho hr hn ha hi hm hK ht
  go_enter Try.func9, Try.ntmps9
  go_wp2_with (first
    | (go_at_call 29; refine (made_yes s y.a _ hc0).mono ?_; rintro e w1 ⟨rfl, rfl⟩)
    | (go_at_call 30; refine HO.out.mono ?_; rintro e w1 ⟨rfl, rfl⟩)
    | (go_at_call 31; refine (hnm.out _).mono ?_; rintro e w1 ⟨rfl, rfl⟩))
  go_ret2
  exact ⟨rfl, rfl⟩
set_option maxHeartbeats 1000000 in
set_option maxRecDepth 100000 in
theorem add_empty {W : World} {B s : Nat} {y : Lay} {σ : SSt} (h : ScopeAt W B s y σ) (k : Int) (hk : (Lit.int .i64 k).wf = true) (hr : 0 ≤ k ∧ k < 9) (hlen : (σ.k k.toNat).length ≤ 1000000) :
    Calls Try.prog 9 #[.pointer (some ⟨s, 0, none⟩), .int .i64 k, .string ⟨#[]⟩] W fun e w' => e = .returned (.tuple #[.int .i64 ((σ.k k.toNat).length : Int), .int .i64 0]) ∧
      ∃ y', ScopeAt w' B s y' { σ with k := upd σ.k k.toNat (σ.k k.toNat ++ [[]]) } ∧ Turned W w' B s y y' := by
  have ho := of_any h k hk
  unfold ofF at ho
  rw [if_pos hr] at ho
  have HO := Lib.hid ho
  have hc0 := scope_cell0 h
  have hK := h.kind k.toNat (by omega)
  have k0 := kind_cell0 hK
  have hc2 := kind_cell2 hK
  have hfz := frozen_of_row W (y.p k.toNat) 0 _ _ hK.blk
  obtain ⟨n, hnn, hm⟩ := hK.map
  have hlk := hm.look (t := 63) keyed_str Try.underlying63 (zero_int W) (key_str [] (by simp)) true
  have ha : atF (σ.k k.toNat) (.string []) = none := by rw [atF_str, Sc.find_none_empty]; rfl
  rw [ha] at hlk
  simp only [if_true, Option.getD_none, Option.isSome_none] at hlk
  have hw : IntKind.i64.wrap (((σ.k k.toNat).length : Int) + 1) = ((σ.k k.toNat).length : Int) + 1 := by rw [IntKind.wrap_i64]; omega
  have HR := Lib.hid hr
  clear ho hr ha
  go_enter Try.func9, Try.ntmps9
  go_wp2_with (first
    | (go_at_call 29; refine (made_yes s y.a _ hc0).mono ?_; rintro e w1 ⟨rfl, rfl⟩)
    | (go_at_call 30; refine HO.out.mono ?_; rintro e w1 ⟨rfl, rfl⟩))
  go_ret2
  have hr := HR.out
  have hpn : ∀ b, b ≠ y.p k.toNat → (W.setCell ⟨y.p k.toNat, 0, none⟩ (.int .i64 (((σ.k k.toNat).length : Int) + 1))).heap[b]? = W.heap[b]? := fun b hb => Below.heap_setCell _ _ _ _ hb
  refine ⟨rfl, _, h.turn_kind k.toNat (by omega) (y.nv k.toNat) (y.m k.toNat) (σ.k k.toNat ++ [[]]) ⟨?_, ⟨n, by simp; omega, ?_⟩, ?_, hK.lp, hK.lm⟩ ((Below.refl B W).setCell (p := ⟨y.p k.toNat, 0, none⟩) hK.lp _) (fun b _ hb _ _ => hpn b hb) (.inl rfl) (.inl rfl)⟩
  · rw [Go.heap_setCell_same W _ 0 _ _ _ hK.blk]
    simp
  · have e : atF (σ.k k.toNat ++ [[]]) = atF (σ.k k.toNat) := by
      funext l
      cases l <;> first | rfl | (rw [atF_str, atF_str, Sc.find_empty])
    rw [e]
    exact hm.same (hpn _ (ne_tag (h.tm (by omega)) (h.tp (by omega)) (by decide)))
  · rw [Sc.nms_empty]
    exact own_same hK.row (fun g hg => hpn g (ne_tag (h.tn (by omega) hg) (h.tp (by omega)) (by decide)))
end Go.Proofs.Ytbnddnoognoekaa
