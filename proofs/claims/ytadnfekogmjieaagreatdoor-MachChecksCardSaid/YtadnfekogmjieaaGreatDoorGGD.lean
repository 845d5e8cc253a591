/-
  Value types: predicates, names and texts of package types. (Put together by gen_stty.py.)
  Value types: Find; the reference's names and texts. (Put together by gen_stty.py.)
  The reference's comparison of function types. (Put together by gen_stty.py.)
  Layer 51: Right and Same of types, ours and the reference's.
-/
import Derived.Test.YtadnfekogmjieaaGreatDoorGGC
import Derived.Deep.RegionHeld3
import Derived.LoopN
import Derived.Deep.QuietTactic
import Derived.BigQuiet
set_option linter.unusedVariables false
namespace Go.Proofs.YtadnfekogmjieaaGreatDoor
open Go.RowKit

namespace Ty
def num (t : Int) : Bool := t == 1 || t == 2
def ref (t : Int) : Bool := t == 3 || t == 4
def val (t : Int) : Bool := num t || ref t
def name (t : Int) : List UInt8 := if t = 1 then [105, 51, 50] else if t = 2 then [105, 54, 52] else if t = 3 then [102, 117, 110, 99, 114, 101, 102] else if t = 4 then [101, 120, 116, 101, 114, 110, 114, 101, 102] else []
def byte (t : Int) : Int := if t = 1 then 127 else if t = 2 then 126 else if t = 3 then 112 else if t = 4 then 111 else 0
theorem five (t : Int) : t = 1 ∨ t = 2 ∨ t = 3 ∨ t = 4 ∨ ((t == 1) = false ∧ (t == 2) = false ∧ (t == 3) = false ∧ (t == 4) = false) := by
  by_cases h1 : t = 1
  · exact .inl h1
  by_cases h2 : t = 2
  · exact .inr (.inl h2)
  by_cases h3 : t = 3
  · exact .inr (.inr (.inl h3))
  by_cases h4 : t = 4
  · exact .inr (.inr (.inr (.inl h4)))
  exact .inr (.inr (.inr (.inr ⟨by simpa using h1, by simpa using h2, by simpa using h3, by simpa using h4⟩)))
theorem name_no {t : Int} (h : (t == 1) = false ∧ (t == 2) = false ∧ (t == 3) = false ∧ (t == 4) = false) : name t = [] := by
  simp at h; simp [name, h]
theorem val_no {t : Int} (h : (t == 1) = false ∧ (t == 2) = false ∧ (t == 3) = false ∧ (t == 4) = false) : val t = false := by
  unfold val num ref; rw [h.1, h.2.1, h.2.2.1, h.2.2.2]; rfl
end Ty

theorem num_any (t : Int) (w : World) : Calls Tryz.prog 102 #[.int .i64 t] w fun e w' => e = .returned (.bool (Ty.num t)) ∧ w = w' := by
  unfold Ty.num
  rcases h1 : (t == 1) with _ | _ <;> rcases h2 : (t == 2) with _ | _
  all_goals
    go_enter Tryz.func102, Tryz.ntmps102
    go_wp2
    go_ret
    exact ⟨rfl, rfl⟩
theorem ref_any (t : Int) (w : World) : Calls Tryz.prog 103 #[.int .i64 t] w fun e w' => e = .returned (.bool (Ty.ref t)) ∧ w = w' := by
  unfold Ty.ref
  rcases h1 : (t == 3) with _ | _ <;> rcases h2 : (t == 4) with _ | _
  all_goals
    go_enter Tryz.func103, Tryz.ntmps103
    go_wp2
    go_ret
    exact ⟨rfl, rfl⟩
theorem val_any (t : Int) (w : World) : Calls Tryz.prog 54 #[.int .i64 t] w fun e w' => e = .returned (.bool (Ty.val t)) ∧ w = w' := by
  unfold Ty.val
  rcases h1 : Ty.num t with _ | _ <;> rcases h2 : Ty.ref t with _ | _
  all_goals
    have H1 := Lib.hid h1
    have H2 := Lib.hid h2
    clear h1 h2
    go_enter Tryz.func54, Tryz.ntmps54
    go_wp2_with (first | (go_at_call 102; refine (num_any _ _).mono ?_; rintro e w1 ⟨rfl, rfl⟩; rw [H1.out]) | (go_at_call 103; refine (ref_any _ _).mono ?_; rintro e w1 ⟨rfl, rfl⟩; rw [H2.out]))
    go_ret
    exact ⟨rfl, rfl⟩
theorem name_any (t : Int) (w : World) : Calls Tryz.prog 161 #[.int .i64 t] w fun e w' => e = .returned (.string ⟨(Ty.name t).toArray⟩) ∧ w = w' := by
  rcases Ty.five t with rfl | rfl | rfl | rfl | h
  case inr.inr.inr.inr =>
    have HV := Lib.hid (Ty.name_no h)
    obtain ⟨h1, h2, h3, h4⟩ := h
    go_enter Tryz.func161, Tryz.ntmps161
    go_wp2
    go_ret
    exact ⟨by rw [HV.out]; rfl, rfl⟩
  all_goals
    go_enter Tryz.func161, Tryz.ntmps161
    go_wp2
    go_ret
    exact ⟨rfl, rfl⟩


theorem info_str : (Tryz.prog.info? 9).map (fun i => (i.zero, i.size, i.bytes)) = some (some (.string ByteArray.empty), 1, 16) := by kernel_rfl

def RdI (w : World) (B : Nat) (A : Option Addr) (vs : List Int) : Prop := Reads w B 1 A vs.length (vs.map (Value.int .i64))
theorem RdI.at_ {w : World} {B : Nat} {A : Option Addr} {vs : List Int} {k : Nat} (h : RdI w B A vs) (hk : k < vs.length) : ∃ ad, A = some ad ∧ ad.block < B ∧ w.cell? (ad.add k) = some (.int .i64 vs[k]) := by
  obtain ⟨ad, u, e, hb, hx, hc⟩ := Reads.at_ h hk
  simp [hk] at hx
  subst hx
  exact ⟨ad, e, hb, hc⟩
theorem RdI.below {w w' : World} {B : Nat} {A : Option Addr} {vs : List Int} (h : RdI w B A vs) (hb : Below B w w') : RdI w' B A vs := Reads.below h hb
theorem RdI.more {w : World} {B B' : Nat} {A : Option Addr} {vs : List Int} (h : RdI w B A vs) (hB : B ≤ B') : RdI w B' A vs := Reads.more h hB
theorem RdI.alloc {w : World} {B : Nat} {A : Option Addr} {vs : List Int} (h : RdI w B A vs) (hB : B ≤ w.heap.size) (o : Obj) : RdI (w.alloc o) B A vs := Reads.alloc h hB o

namespace Ty
def shown (t : Int) : List UInt8 := if val t then name t else [63]
def list (vs : List Int) : List UInt8 := 40 :: (Lib.join (vs.map shown) [44, 32] ++ [41])
def text (ps rs : List Int) : List UInt8 := list ps ++ ([32, 45, 62, 32] ++ list rs)
theorem shown_len (t : Int) : (shown t).length ≤ 9 := by
  rcases five t with rfl | rfl | rfl | rfl | h
  all_goals first | decide | (unfold shown; rw [val_no h]; simp)
end Ty
def strs (xs : List (List UInt8)) : List Value := xs.map (fun x => Value.string ⟨x.toArray⟩)
theorem strs_snoc (xs : List (List UInt8)) (x : List UInt8) : strs (xs ++ [x]) = strs xs ++ [.string ⟨x.toArray⟩] := by simp [strs]
theorem join_len (vs : List Int) : (Lib.join (vs.map Ty.shown) [44, 32]).length ≤ 11 * vs.length := by
  unfold Lib.join
  induction vs with
  | nil => simp [List.intercalate]
  | cons t r ih =>
    have h1 := Ty.shown_len t
    match r, ih with
    | [], _ => simp [List.intercalate]; omega
    | u :: r, ih =>
      have e : List.intercalate [44, 32] (List.map Ty.shown (t :: u :: r)) = Ty.shown t ++ ([44, 32] ++ List.intercalate [44, 32] (List.map Ty.shown (u :: r))) := by
        simp [List.intercalate]
      rw [e]
      simp only [List.length_append, List.length_cons, List.length_nil] at ih ⊢
      omega

theorem one_one {a : Value} (ha : a.oneCell' = true) : ∀ u ∈ (#[a] : Array Value).toList, u.oneCell' = true := by
  intro u hu; simp at hu; rw [hu]; exact ha

theorem join_any (base : Nat) (A : Option Addr) (cr : Nat) (vs : List Int) (w : World) (hown : w.ownsRow base 9 1 (.slice A vs.length cr) vs.length (strs (vs.map Ty.shown))) (hl : vs.length ≤ 5000) :
    Calls Tryz.prog 73 #[.slice A vs.length cr, .string { data := #[44, 32] }] w fun e w' => e = .returned (.string ⟨(Lib.join (vs.map Ty.shown) [44, 32]).toArray⟩) ∧ Below w.heap.size w w' := by
  by_cases h0 : vs = []
  · subst h0
    refine (Tryz.strings_Join_none A cr { data := #[44, 32] } w).mono ?_
    rintro e w1 ⟨rfl, rfl⟩
    exact ⟨rfl, Below.refl _ _⟩
  · have hp : 0 < vs.length := by
      rcases Nat.eq_zero_or_pos vs.length with h | h
      · exact absurd (List.eq_nil_of_length_eq_zero h) h0
      · exact h
    obtain ⟨hcap, _⟩ := own_cap hown
    obtain ⟨g, cap, hv, _, hlt⟩ := hown.form hp
    injection hv with hA _ hc
    subst hA hc
    have hj := join_len vs
    have e1 : (vs.map (fun t => (⟨(Ty.shown t).toArray⟩ : ByteArray))).map (·.data.toList) = vs.map Ty.shown := by simp [Function.comp_def]
    have := Tryz.strings_Join g 0 cr (vs.map (fun t => (⟨(Ty.shown t).toArray⟩ : ByteArray))) { data := #[44, 32] } w (by
      intro j x hx
      have hjl : j < vs.length := by
        rcases Nat.lt_or_ge j vs.length with h | h
        · exact h
        · rw [List.getElem?_eq_none (by simpa using h)] at hx; cases hx
      rw [Nat.zero_add, hown.cellAt j (by omega)]
      simp [hjl] at hx
      subst hx
      simp [strs, hjl]) hlt (by simp; omega) (by simpa using hcap) (by rw [e1]; show (Lib.join (vs.map Ty.shown) [44, 32]).length ≤ _; omega)
    rw [e1, List.length_map] at this
    exact this

set_option maxHeartbeats 1000000 in
set_option maxRecDepth 100000 in
theorem list_any (A : Option Addr) (c : Nat) (vs : List Int) (w : World) (hr : RdI w w.heap.size A vs) (hl : vs.length ≤ 5000) :
    Calls Tryz.prog 118 #[.slice A vs.length c] w fun e w' => e = .returned (.string ⟨(Ty.list vs).toArray⟩) ∧ Below w.heap.size w w' := by
  obtain ⟨i0, hi0, hz0, hz1, hz2⟩ := info_parts info_str
  go_enter Tryz.func118, Tryz.ntmps118
  go_wp2_with (at_make; refine wpList_make_own _ rfl _ _ 116 rfl w.heap.size 9 i0 _ 1 Tryz.underlying116 hi0 hz0 hz1 .i64 .i64 _ vs.length rfl rfl rfl (by rw [hz2]; omega) (by unfold maxLen; omega) (Nat.le_refl _) ?_; intro w0 hown0 hg0)
  have hb0 : Below w.heap.size w w0 := (Below.refl _ _).grown hg0 (Nat.le_refl _) (by intro k hk; cases hk)
  clear hg0
  go_loopw [3, 11] (fun v i wr => ∃ (k : Nat) (Ar : Option Addr) (cr : Nat), k ≤ vs.length ∧ i = .int .i64 k ∧ v = .slice Ar k cr ∧ wr.ownsRow w.heap.size 9 1 (.slice Ar k cr) k (strs ((vs.take k).map Ty.shown)) ∧ Below w.heap.size w wr) (fun _ i _ => vs.length - (intOf i).toNat)
  case atStart => exact ⟨0, _, _, by omega, rfl, rfl, hown0, hb0⟩
  case round =>
    clear hown0 hb0
    obtain ⟨k, Ar, cr, hk, rfl, rfl, hown, hb⟩ := hrel
    have hsz := hb.size
    by_cases hkl : k < vs.length
    · obtain ⟨ad, rfl, hblk, hcell0⟩ := hr.at_ hkl
      have hcell := (hb.cell (p := ad.add k) (by rw [block_of_add]; exact hblk)).trans hcell0
      obtain ⟨t, ht⟩ : ∃ t, vs[k] = t := ⟨_, rfl⟩
      rw [ht] at hcell
      have htake : strs ((vs.take (k + 1)).map Ty.shown) = strs ((vs.take k).map Ty.shown) ++ [.string ⟨(Ty.shown t).toArray⟩] := by
        rw [List.take_succ_eq_append_getElem hkl, List.map_append, ht]; exact strs_snoc _ _
      have HT := Lib.hid htake
      clear hcell0 htake ht
      rcases hv : Ty.val t with _ | _
      · have hsh : Ty.shown t = [63] := by unfold Ty.shown; rw [hv]; rfl
        have HV := Lib.hid hv
        have HSH := Lib.hid hsh
        clear hv hsh
        go_wp2_with (first
          | (go_at_call 54; refine (val_any _ _).mono ?_; rintro e w1 ⟨rfl, rfl⟩; rw [HV.out])
          | (at_builtin; (refine app_one _ _ rfl (.tmp 18) (.tmp 19) 116 rfl w.heap.size 9 i0 _ 1 16 Tryz.underlying116 hi0 hz0 hz1 hz2 rfl (by omega) rfl (one_one rfl) _ k _ rfl hown wr.heap.size rfl rfl (by omega) (by omega) hsz ?_); intro A2 c2 w2 hown2 hg2 hat2))
        have hb2 := hb.trans (below_own hown hg2 hsz)
        have ho : w2.ownsRow w.heap.size 9 1 (.slice A2 (k + 1) c2) (k + 1) (strs ((vs.take (k + 1)).map Ty.shown)) := by rw [HT.out, HSH.out]; exact hown2
        clear hown2 hg2 hat2 hown
        go_roundw
        case rel => exact ⟨k + 1, A2, c2, by omega, by go_num, rfl, ho, hb2⟩
        case measure => simp [intOf]; omega
      · have hsh : Ty.shown t = Ty.name t := by unfold Ty.shown; rw [hv]; rfl
        have HV := Lib.hid hv
        have HSH := Lib.hid hsh
        clear hv hsh
        go_wp2_with (first
          | (go_at_call 54; refine (val_any _ _).mono ?_; rintro e w1 ⟨rfl, rfl⟩; rw [HV.out])
          | (go_at_call 161; refine (name_any _ _).mono ?_; rintro e w1 ⟨rfl, rfl⟩)
          | (at_builtin; (refine app_one _ _ rfl (.tmp 21) (.tmp 24) 116 rfl w.heap.size 9 i0 _ 1 16 Tryz.underlying116 hi0 hz0 hz1 hz2 rfl (by omega) rfl (one_one rfl) _ k _ rfl hown wr.heap.size rfl rfl (by omega) (by omega) hsz ?_); intro A2 c2 w2 hown2 hg2 hat2))
        have hb2 := hb.trans (below_own hown hg2 hsz)
        have ho : w2.ownsRow w.heap.size 9 1 (.slice A2 (k + 1) c2) (k + 1) (strs ((vs.take (k + 1)).map Ty.shown)) := by rw [HT.out, HSH.out]; exact hown2
        clear hown2 hg2 hat2 hown
        go_roundw
        case rel => exact ⟨k + 1, A2, c2, by omega, by go_num, rfl, ho, hb2⟩
        case measure => simp [intOf]; omega
    · obtain rfl : k = vs.length := by omega
      rw [List.take_length] at hown
      go_wp2_with fail
      refine (join_any _ Ar cr vs _ hown hl).mono ?_
      rintro e w1 ⟨rfl, hb1⟩
      obtain ⟨J, hJ⟩ : ∃ J, Lib.join (vs.map Ty.shown) [44, 32] = J := ⟨_, rfl⟩
      have hjl := join_len vs
      have HJ := Lib.hid hJ
      rw [hJ] at hjl ⊢
      have hjl2 : J.length ≤ 100000 := by omega
      clear hJ hjl hown
      go_wp2
      go_ret
      refine ⟨?_, hb.trans (hb1.mono hsz)⟩
      have e : Ty.list vs = 40 :: (J ++ [41]) := by unfold Ty.list; rw [HJ.out]
      rw [e]
      have eb : (({ data := #[40] } : ByteArray) ++ ({ data := J.toArray } : ByteArray) ++ ({ data := #[41] } : ByteArray)) = { data := (40 :: (J ++ [41])).toArray } := by apply ByteArray.ext; simp
      exact congrArg (fun s => Ending.returned (Value.string s)) eb

theorem list_len (vs : List Int) (h : vs.length ≤ 5000) : (Ty.list vs).length ≤ 100000 := by
  have := join_len vs
  unfold Ty.list
  simp only [List.length_cons, List.length_append, List.length_nil]
  omega

theorem box_rdi {w : World} {A : Option Addr} {vs : List Int} (h : RdI w w.heap.size A vs) (o : Obj) : RdI ((w.alloc o).drew) ((w.alloc o).drew).heap.size A vs :=
  (h.alloc (Nat.le_refl _) o).more (by show w.heap.size ≤ (w.alloc o).heap.size; simp)
theorem box_keep {w w1 : World} {x y : Value} {T : TypeId} (hb : Below ((w.alloc (.cells #[x, y] T)).drew).heap.size ((w.alloc (.cells #[x, y] T)).drew) w1) :
    w1.cell? ⟨w.heap.size, 0, none⟩ = some x ∧ w1.cell? ⟨w.heap.size, 1, none⟩ = some y ∧ w.heap.size + 1 ≤ w1.heap.size ∧ Below w.heap.size w w1 := by
  have hs : ((w.alloc (.cells #[x, y] T)).drew).heap.size = w.heap.size + 1 := by show (w.alloc (.cells #[x, y] T)).heap.size = _; simp
  have h0 : ((w.alloc (.cells #[x, y] T)).drew).cell? ⟨w.heap.size, 0, none⟩ = some x := by simp
  have h1 : ((w.alloc (.cells #[x, y] T)).drew).cell? ⟨w.heap.size, 1, none⟩ = some y := by simp
  refine ⟨(hb.cell (p := ⟨w.heap.size, 0, none⟩) (by rw [hs]; show w.heap.size < _; omega)).trans h0, (hb.cell (p := ⟨w.heap.size, 1, none⟩) (by rw [hs]; show w.heap.size < _; omega)).trans h1, ?_, ?_⟩
  · have := hb.size; rw [hs] at this; exact this
  · exact (((Below.refl _ _).alloc (Nat.le_refl _) _).drew).trans (hb.mono (by rw [hs]; omega))
theorem keep_on {w1 w2 : World} {g : Nat} {x y : Value} (h0 : w1.cell? ⟨g, 0, none⟩ = some x) (h1 : w1.cell? ⟨g, 1, none⟩ = some y) (hg : g + 1 ≤ w1.heap.size) (hb : Below w1.heap.size w1 w2) : w2.cell? ⟨g, 0, none⟩ = some x ∧ w2.cell? ⟨g, 1, none⟩ = some y :=
  ⟨(hb.cell (p := ⟨g, 0, none⟩) hg).trans h0, (hb.cell (p := ⟨g, 1, none⟩) hg).trans h1⟩

set_option maxHeartbeats 1000000 in
set_option maxRecDepth 100000 in
theorem text_any (A1 A2 : Option Addr) (c1 c2 : Nat) (ps rs : List Int) (w : World) (h1 : RdI w w.heap.size A1 ps) (h2 : RdI w w.heap.size A2 rs) (hp : ps.length ≤ 5000) (hr : rs.length ≤ 5000) :
    Calls Tryz.prog 66 #[.agg #[.slice A1 ps.length c1, .slice A2 rs.length c2]] w fun e w' => e = .returned (.string ⟨(Ty.text ps rs).toArray⟩) ∧ Below w.heap.size w w' := by
  have l1 := list_len ps hp
  have l2 := list_len rs hr
  obtain ⟨X, hX⟩ : ∃ X, Ty.list ps = X := ⟨_, rfl⟩
  obtain ⟨Y, hY⟩ : ∃ Y, Ty.list rs = Y := ⟨_, rfl⟩
  have C1 : Hid (∀ W : World, RdI W W.heap.size A1 ps → Calls Tryz.prog 118 #[.slice A1 ps.length c1] W fun e w' => e = .returned (.string ⟨X.toArray⟩) ∧ Below W.heap.size W w') := fun W h => by rw [← hX]; exact list_any A1 c1 ps W h hp
  have C2 : Hid (∀ W : World, RdI W W.heap.size A2 rs → Calls Tryz.prog 118 #[.slice A2 rs.length c2] W fun e w' => e = .returned (.string ⟨Y.toArray⟩) ∧ Below W.heap.size W w') := fun W h => by rw [← hY]; exact list_any A2 c2 rs W h hr
  rw [hX] at l1
  rw [hY] at l2
  have HX := Lib.hid hX
  have HY := Lib.hid hY
  clear hX hY hp hr
  have ad1 : ∀ W : World, (Op.stringOp .add ({ data := X.toArray } : ByteArray) ({ data := #[32, 45, 62, 32] } : ByteArray)).run Tryz.prog W = .ok (.string (({ data := X.toArray } : ByteArray) ++ ({ data := #[32, 45, 62, 32] } : ByteArray))) W := fun W => run_string_add_sum W _ _ (by show X.toArray.size + 4 ≤ _; simp; omega)
  have ad2 : ∀ W : World, (Op.stringOp .add (({ data := X.toArray } : ByteArray) ++ ({ data := #[32, 45, 62, 32] } : ByteArray)) ({ data := Y.toArray } : ByteArray)).run Tryz.prog W = .ok (.string (({ data := X.toArray } : ByteArray) ++ ({ data := #[32, 45, 62, 32] } : ByteArray) ++ ({ data := Y.toArray } : ByteArray))) W := fun W => run_string_add_sum W _ _ (by simp [ByteArray.size_append]; show X.toArray.size + 4 + Y.toArray.size ≤ _; simp; omega)
  go_enter Tryz.func66, Tryz.ntmps66
  go_wp2_with fail
  go_region_held3 (fun w' => w'.cell? ⟨w.heap.size, 0, none⟩ = some (.slice A1 ps.length c1) ∧ w'.cell? ⟨w.heap.size, 1, none⟩ = some (.slice A2 rs.length c2))
    (go_keep)
    (first
      | (go_at_call 118; (with_reducible refine (C1.out _ ?_).mono ?_); exact box_rdi h1 _; rintro e w1 ⟨rfl, hb1⟩; obtain ⟨q0, q1, q2, b1⟩ := box_keep hb1; clear hb1)
      | (go_at_call 118; (with_reducible refine (C2.out _ ?_).mono ?_); exact ((h2.below b1).more (Nat.le_of_succ_le q2)); rintro e w2 ⟨rfl, hb2⟩; obtain ⟨q3, q4⟩ := keep_on q0 q1 q2 hb2))
  all_goals
    go_wp2
    go_ret
    have e : Ty.text ps rs = X ++ ([32, 45, 62, 32] ++ Y) := by unfold Ty.text; rw [HX.out, HY.out]
    have eb : (({ data := X.toArray } : ByteArray) ++ ({ data := #[32, 45, 62, 32] } : ByteArray) ++ ({ data := Y.toArray } : ByteArray)) = { data := (X ++ ([32, 45, 62, 32] ++ Y)).toArray } := by apply ByteArray.ext; simp
    rw [e]
    refine ⟨congrArg (fun s => Ending.returned (Value.string s)) eb, ?_⟩
    exact b1.trans (hb2.mono (by omega))

/-! ## all, Right, Limits, Fits -/
end Go.Proofs.YtadnfekogmjieaaGreatDoor
set_option linter.unusedVariables false
namespace Go.Proofs.YtadnfekogmjieaaGreatDoor
open Go.RowKit

namespace Ty
def find (nm : List UInt8) : Int × Bool := if name 1 = nm then (1, true) else if name 2 = nm then (2, true) else if name 3 = nm then (3, true) else if name 4 = nm then (4, true) else (0, false)
theorem ways {p1 p2 p3 p4 : Prop} [Decidable p1] [Decidable p2] [Decidable p3] [Decidable p4] {α : Type} (a b c d e : α) :
    (p1 ∧ (if p1 then a else if p2 then b else if p3 then c else if p4 then d else e) = a) ∨ (¬ p1 ∧ p2 ∧ (if p1 then a else if p2 then b else if p3 then c else if p4 then d else e) = b) ∨
    (¬ p1 ∧ ¬ p2 ∧ p3 ∧ (if p1 then a else if p2 then b else if p3 then c else if p4 then d else e) = c) ∨ (¬ p1 ∧ ¬ p2 ∧ ¬ p3 ∧ p4 ∧ (if p1 then a else if p2 then b else if p3 then c else if p4 then d else e) = d) ∨
    (¬ p1 ∧ ¬ p2 ∧ ¬ p3 ∧ ¬ p4 ∧ (if p1 then a else if p2 then b else if p3 then c else if p4 then d else e) = e) := by
  by_cases h1 : p1
  · exact .inl ⟨h1, if_pos h1⟩
  by_cases h2 : p2
  · exact .inr (.inl ⟨h1, h2, by rw [if_neg h1, if_pos h2]⟩)
  by_cases h3 : p3
  · exact .inr (.inr (.inl ⟨h1, h2, h3, by rw [if_neg h1, if_neg h2, if_pos h3]⟩))
  by_cases h4 : p4
  · exact .inr (.inr (.inr (.inl ⟨h1, h2, h3, h4, by rw [if_neg h1, if_neg h2, if_neg h3, if_pos h4]⟩)))
  exact .inr (.inr (.inr (.inr ⟨h1, h2, h3, h4, by rw [if_neg h1, if_neg h2, if_neg h3, if_neg h4]⟩)))
end Ty
set_option maxHeartbeats 1000000 in
set_option maxRecDepth 100000 in
theorem find_any (nm : List UInt8) (w : World) : Calls Tryz.prog 134 #[.string ⟨nm.toArray⟩] w fun e w' => e = .returned (.tuple #[.int .i64 (Ty.find nm).1, .bool (Ty.find nm).2]) ∧ w = w' := by
  rcases Ty.ways (p1 := Ty.name 1 = nm) (p2 := Ty.name 2 = nm) (p3 := Ty.name 3 = nm) (p4 := Ty.name 4 = nm) ((1, true) : Int × Bool) (2, true) (3, true) (4, true) (0, false) with ⟨a1, hv⟩ | ⟨a1, a2, hv⟩ | ⟨a1, a2, a3, hv⟩ | ⟨a1, a2, a3, a4, hv⟩ | ⟨a1, a2, a3, a4, hv⟩
  all_goals have HV := Lib.hid (show Ty.find nm = _ from hv)
  all_goals clear hv
  case inl =>
    have g1 : (Ty.name 1 == nm) = true := by simpa using a1
    clear a1
    go_enter Tryz.func134, Tryz.ntmps134
    go_wp2_with fail
    refine wp_loop_rounds 1 ?_
    rw [rounds_succ]
    go_wp2_with (go_at_call 161; refine (name_any _ _).mono ?_; rintro e w1 ⟨rfl, rfl⟩)
    go_ret2
    exact ⟨by rw [HV.out]; rfl, rfl⟩
  case inr.inl =>
    have g1 : (Ty.name 1 == nm) = false := by simpa using a1
    have g2 : (Ty.name 2 == nm) = true := by simpa using a2
    clear a1 a2
    go_enter Tryz.func134, Tryz.ntmps134
    go_wp2_with fail
    refine wp_loop_rounds 2 ?_
    iterate 2 (rw [rounds_succ]; go_wp2_with (go_at_call 161; refine (name_any _ _).mono ?_; rintro e w1 ⟨rfl, rfl⟩))
    go_ret2
    exact ⟨by rw [HV.out]; rfl, rfl⟩
  case inr.inr.inl =>
    have g1 : (Ty.name 1 == nm) = false := by simpa using a1
    have g2 : (Ty.name 2 == nm) = false := by simpa using a2
    have g3 : (Ty.name 3 == nm) = true := by simpa using a3
    clear a1 a2 a3
    go_enter Tryz.func134, Tryz.ntmps134
    go_wp2_with fail
    refine wp_loop_rounds 3 ?_
    iterate 3 (rw [rounds_succ]; go_wp2_with (go_at_call 161; refine (name_any _ _).mono ?_; rintro e w1 ⟨rfl, rfl⟩))
    go_ret2
    exact ⟨by rw [HV.out]; rfl, rfl⟩
  case inr.inr.inr.inl =>
    have g1 : (Ty.name 1 == nm) = false := by simpa using a1
    have g2 : (Ty.name 2 == nm) = false := by simpa using a2
    have g3 : (Ty.name 3 == nm) = false := by simpa using a3
    have g4 : (Ty.name 4 == nm) = true := by simpa using a4
    clear a1 a2 a3 a4
    go_enter Tryz.func134, Tryz.ntmps134
    go_wp2_with fail
    refine wp_loop_rounds 4 ?_
    iterate 4 (rw [rounds_succ]; go_wp2_with (go_at_call 161; refine (name_any _ _).mono ?_; rintro e w1 ⟨rfl, rfl⟩))
    go_ret2
    exact ⟨by rw [HV.out]; rfl, rfl⟩
  case inr.inr.inr.inr =>
    have g1 : (Ty.name 1 == nm) = false := by simpa using a1
    have g2 : (Ty.name 2 == nm) = false := by simpa using a2
    have g3 : (Ty.name 3 == nm) = false := by simpa using a3
    have g4 : (Ty.name 4 == nm) = false := by simpa using a4
    clear a1 a2 a3 a4
    go_enter Tryz.func134, Tryz.ntmps134
    go_wp2_with fail
    refine wp_loop_rounds 5 ?_
    iterate 5 (rw [rounds_succ]; go_wp2_with (go_at_call 161; refine (name_any _ _).mono ?_; rintro e w1 ⟨rfl, rfl⟩))
    go_ret2
    exact ⟨by rw [HV.out]; rfl, rfl⟩
theorem refVal_any (t : Int) (w : World) : Calls Tryz.prog 111 #[.int .i64 t] w fun e w' => e = .returned (.bool (Ty.val t)) ∧ w = w' := by
  rcases Ty.five t with rfl | rfl | rfl | rfl | h
  case inr.inr.inr.inr =>
    have HV := Lib.hid (Ty.val_no h)
    simp at h
    by_cases h1 : 1 ≤ t
    · have h2 : 4 < t := by omega
      have g1 : decide (1 ≤ t) = true := by simpa using h1
      have g2 : decide (t ≤ 4) = false := by simp; omega
      clear h
      go_enter Tryz.func111, Tryz.ntmps111
      go_wp2
      go_ret
      exact ⟨by rw [HV.out]; rfl, rfl⟩
    · have g1 : decide (1 ≤ t) = false := by simpa using h1
      clear h
      go_enter Tryz.func111, Tryz.ntmps111
      go_wp2
      go_ret
      exact ⟨by rw [HV.out]; rfl, rfl⟩
  all_goals
    go_enter Tryz.func111, Tryz.ntmps111
    go_wp2
    go_ret
    exact ⟨rfl, rfl⟩
theorem join_snoc (xs : List (List UInt8)) (y : List UInt8) (sep : List UInt8) : Lib.join (xs ++ [y]) sep = if xs = [] then y else Lib.join xs sep ++ (sep ++ y) := by
  induction xs with
  | nil => simp [Lib.join]
  | cons x xs ih =>
    cases xs with
    | nil => simp [Lib.join]
    | cons z zs =>
      simp only [List.cons_append] at ih ⊢
      simp [Lib.join] at ih ⊢
      simp [ih]

def Ty.part (vs : List Int) (k : Nat) : List UInt8 := 40 :: Lib.join ((vs.take k).map Ty.shown) [44, 32]
theorem Ty.part_zero (vs : List Int) : Ty.part vs 0 = [40] := by simp [Ty.part, Lib.join]
theorem Ty.part_all (vs : List Int) : Ty.list vs = Ty.part vs vs.length ++ [41] := by simp [Ty.part, Ty.list]
theorem Ty.part_first (vs : List Int) (h : 0 < vs.length) : Ty.part vs (0 + 1) = Ty.part vs 0 ++ Ty.shown vs[0] := by
  unfold Ty.part
  rw [List.take_succ_eq_append_getElem h, List.map_append]
  simp [Lib.join]
theorem Ty.part_next (vs : List Int) (k : Nat) (hk : 0 < k) (h : k < vs.length) : Ty.part vs (k + 1) = (Ty.part vs k ++ [44, 32]) ++ Ty.shown vs[k] := by
  unfold Ty.part
  rw [List.take_succ_eq_append_getElem h, List.map_append, List.map_cons, List.map_nil, join_snoc, if_neg]
  · simp
  · intro e
    have h2 : (vs.take k).length = 0 := by rw [List.map_eq_nil_iff.1 e]; rfl
    rw [List.length_take] at h2
    omega
theorem Ty.part_len (vs : List Int) (k : Nat) : (Ty.part vs k).length ≤ 1 + 11 * k := by
  induction k with
  | zero => simp [Ty.part_zero]
  | succ k ih =>
    by_cases h : k < vs.length
    · have hs := Ty.shown_len vs[k]
      rcases Nat.eq_zero_or_pos k with rfl | hk
      · rw [Ty.part_first vs h, List.length_append]
        omega
      · rw [Ty.part_next vs k hk h]
        simp only [List.length_append, List.length_cons, List.length_nil]
        omega
    · have e : vs.take (k + 1) = vs.take k := by rw [List.take_of_length_le (by omega), List.take_of_length_le (by omega)]
      have : Ty.part vs (k + 1) = Ty.part vs k := by unfold Ty.part; rw [e]
      rw [this]
      omega

theorem cat_mk (a b : List UInt8) : (({ data := a.toArray } : ByteArray) ++ ({ data := b.toArray } : ByteArray)) = { data := (a ++ b).toArray } := by apply ByteArray.ext; simp

end Go.Proofs.YtadnfekogmjieaaGreatDoor
set_option linter.unusedVariables false
namespace Go.Proofs.YtadnfekogmjieaaGreatDoor
open Go.RowKit

theorem drop_eq_cons {l : List Int} {k : Nat} {t : Int} (h : k < l.length) (ht : l[k] = t) : l.drop k = t :: l.drop (k + 1) := by rw [List.drop_eq_getElem_cons h, ht]

theorem two_rdi {w : World} {A : Option Addr} {vs : List Int} (h : RdI w w.heap.size A vs) (o o' : Obj) : RdI ((w.alloc o).alloc o') w.heap.size A vs :=
  (h.alloc (Nat.le_refl _) o).alloc (by simp) o'


theorem below_drewN_ {B : Nat} {w W : World} (h : Below B w W) (q : Nat) : Below B w (W.drewN q) := ⟨h.os, h.tape, h.output, h.size, h.block⟩

theorem RdI.drewN {w : World} {B : Nat} {A : Option Addr} {vs : List Int} (h : RdI w B A vs) (q : Nat) : RdI (w.drewN q) B A vs := h.below (below_drewN_ (Below.refl _ _) q)

end Go.Proofs.YtadnfekogmjieaaGreatDoor
set_option linter.unusedVariables false
set_option linter.unusedSimpArgs false
namespace Go.Proofs.YtadnfekogmjieaaGreatDoor
namespace Ty
def right (vs : List Int) : Bool := decide (vs.length ≤ 8) && vs.all val
end Ty
open Go.RowKit
set_option maxHeartbeats 1000000 in
set_option maxRecDepth 100000 in
theorem all_any (A : Option Addr) (c : Nat) (vs : List Int) (w : World) (B : Nat) (hr : RdI w B A vs) (hl : vs.length ≤ 1000000) :
    Calls Tryz.prog 53 #[.slice A vs.length c, .func (.func 54) #[] #[]] w fun e w' => e = .returned (.bool (Ty.right vs)) ∧ w = w' := by
  by_cases h8 : 8 < vs.length
  · have hv : Hid (Ty.right vs = false) := by unfold Hid Ty.right; rw [decide_eq_false (by omega)]; rfl
    go_enter Tryz.func53, Tryz.ntmps53
    go_wp2
    go_ret
    exact ⟨by rw [hv.out]; rfl, rfl⟩
  · have g1 : decide ((8 : Int) < (vs.length : Int)) = false := by simp; omega
    have hR : Hid (Ty.right vs = vs.all Ty.val) := by unfold Hid Ty.right; rw [decide_eq_true (by omega)]; rfl
    go_enter Tryz.func53, Tryz.ntmps53
    go_wp2
    go_loop [12] (fun i => ∃ k : Nat, k ≤ vs.length ∧ i = .int .i64 k ∧ Hid (vs.all Ty.val = (vs.drop k).all Ty.val)) (fun i => vs.length - (intOf i).toNat)
    case atStart => exact ⟨0, by omega, rfl, by simp [Hid]⟩
    case round =>
      obtain ⟨k, hk, rfl, HR⟩ := hrel
      by_cases hkl : k < vs.length
      · obtain ⟨ad, rfl, _, hcell⟩ := hr.at_ hkl
        obtain ⟨t, ht⟩ : ∃ t, vs[k] = t := ⟨_, rfl⟩
        rw [ht] at hcell
        have hd : vs.drop k = t :: vs.drop (k + 1) := by rw [List.drop_eq_getElem_cons hkl, ht]
        rcases hv : Ty.val t with _ | _
        · have hf : Hid (Ty.right vs = false) := by unfold Hid; rw [hR.out, HR.out, hd, List.all_cons, hv]; rfl
          have HV := Lib.hid hv
          clear hv ht hd
          go_wp2_with (go_at_call 54; refine (val_any _ _).mono ?_; rintro e w1 ⟨rfl, rfl⟩; rw [HV.out])
          go_ret
          exact ⟨by rw [hf.out]; rfl, rfl⟩
        · have hf : Hid (vs.all Ty.val = (vs.drop (k + 1)).all Ty.val) := by unfold Hid; rw [HR.out, hd, List.all_cons, hv, Bool.true_and]
          have HV := Lib.hid hv
          clear hv ht hd
          go_wp2_with (go_at_call 54; refine (val_any _ _).mono ?_; rintro e w1 ⟨rfl, rfl⟩; rw [HV.out])
          go_round
          case rel => exact ⟨k + 1, by omega, by go_num, hf⟩
          case measure => simp [intOf]; omega
      · have hf : Hid (Ty.right vs = true) := by unfold Hid; rw [hR.out, HR.out, List.drop_of_length_le (by omega)]; rfl
        go_wp2
        go_ret
        exact ⟨by rw [hf.out]; rfl, rfl⟩
set_option maxHeartbeats 1000000 in
set_option maxRecDepth 100000 in
theorem right_any (A1 A2 : Option Addr) (c1 c2 : Nat) (ps rs : List Int) (w : World) (h1 : RdI w w.heap.size A1 ps) (h2 : RdI w w.heap.size A2 rs) (hp : ps.length ≤ 1000) (hr : rs.length ≤ 1000) :
    Calls Tryz.prog 25 #[.agg #[.slice A1 ps.length c1, .slice A2 rs.length c2]] w fun e w' => e = .returned (.bool (Ty.right ps && Ty.right rs)) ∧ Below w.heap.size w w' := by
  rcases e1 : Ty.right ps with _ | _ <;> rcases e2 : Ty.right rs with _ | _
  all_goals
    have E1 := Lib.hid e1
    have E2 := Lib.hid e2
    clear e1 e2
    go_enter Tryz.func25, Tryz.ntmps25
    go_wp2_with (first
      | (go_at_call 53; (with_reducible refine (all_any A1 c1 ps _ w.heap.size ?_ ?_).mono ?_); exact h1.alloc (Nat.le_refl _) _; omega; rintro e w1 ⟨rfl, rfl⟩; rw [E1.out])
      | (go_at_call 53; (with_reducible refine (all_any A2 c2 rs _ w.heap.size ?_ ?_).mono ?_); exact h2.alloc (Nat.le_refl _) _; omega; rintro e w1 ⟨rfl, rfl⟩; rw [E2.out]))
    go_ret
    exact ⟨rfl, (Below.refl _ _).alloc (Nat.le_refl _) _⟩
set_option maxHeartbeats 1000000 in
set_option maxRecDepth 100000 in
theorem same_any (A B : Option Addr) (c d : Nat) (xs ys : List Int) (w : World) (N : Nat) (ha : RdI w N A xs) (hb : RdI w N B ys) (hl : xs.length ≤ 1000000) :
    Calls Tryz.prog 85 #[.slice A xs.length c, .slice B ys.length d] w fun e w' => e = .returned (.bool (decide (xs = ys))) ∧ w = w' := by
  by_cases h : xs.length = ys.length
  · obtain ⟨n, hn⟩ : ∃ n, ys.length = n := ⟨_, rfl⟩
    rw [h, hn]
    have han : xs.length = n := h.trans hn
    go_enter Tryz.func85, Tryz.ntmps85
    go_wp2
    go_loop [14] (fun i => ∃ k : Nat, k ≤ n ∧ i = .int .i64 k ∧ Hid (decide (xs = ys) = decide (xs.drop k = ys.drop k))) (fun i => n - (intOf i).toNat)
    case atStart => exact ⟨0, by omega, rfl, by simp [Hid]⟩
    case round =>
      obtain ⟨k, hk, rfl, HR⟩ := hrel
      by_cases hkl : k < n
      · obtain ⟨ad, rfl, _, hcell⟩ := ha.at_ (show k < xs.length by omega)
        obtain ⟨bd, rfl, _, hcelb⟩ := hb.at_ (show k < ys.length by omega)
        obtain ⟨t, ht⟩ : ∃ t, xs[k] = t := ⟨_, rfl⟩
        obtain ⟨u, hu⟩ : ∃ u, ys[k] = u := ⟨_, rfl⟩
        rw [ht] at hcell
        rw [hu] at hcelb
        have hd := drop_eq_cons (by omega) ht
        have hd' := drop_eq_cons (by omega) hu
        have hk0 : (0 : Int) ≤ (k : Int) := Int.natCast_nonneg _
        rcases hv : (t == u) with _ | _
        · have hf : Hid (decide (xs = ys) = false) := by
            unfold Hid
            rw [HR.out, hd, hd']
            simp at hv ⊢
            intro e; exact absurd e hv
          clear ht hu hd hd'
          go_wp2
          go_ret
          exact ⟨by rw [hf.out]; rfl, rfl⟩
        · have hf : Hid (decide (xs = ys) = decide (xs.drop (k + 1) = ys.drop (k + 1))) := by
            unfold Hid
            rw [HR.out, hd, hd']
            simp at hv
            simp [hv]
          clear ht hu hd hd'
          go_wp2
          go_round
          case rel => exact ⟨k + 1, by omega, by go_num, hf⟩
          case measure => simp [intOf]; omega
      · have hf : Hid (decide (xs = ys) = true) := by unfold Hid; rw [HR.out, List.drop_of_length_le (by omega), List.drop_of_length_le (by omega)]; simp
        go_wp2
        go_ret
        exact ⟨by rw [hf.out]; rfl, rfl⟩
  · have hf : Hid (decide (xs = ys) = false) := by unfold Hid; simp; intro e; exact h (by rw [e])
    have g1 : ((xs.length : Int) == (ys.length : Int)) = false := by simp; omega
    go_enter Tryz.func85, Tryz.ntmps85
    go_wp2
    go_ret
    exact ⟨by rw [hf.out]; rfl, rfl⟩
set_option maxHeartbeats 1000000 in
set_option maxRecDepth 100000 in
theorem typesSame_any (A1 A2 B1 B2 : Option Addr) (c1 c2 d1 d2 : Nat) (ps rs qs ss : List Int) (w : World) (h1 : RdI w w.heap.size A1 ps) (h2 : RdI w w.heap.size A2 rs) (h3 : RdI w w.heap.size B1 qs) (h4 : RdI w w.heap.size B2 ss) (hp : ps.length ≤ 1000) (hr : rs.length ≤ 1000) :
    Calls Tryz.prog 39 #[.agg #[.slice A1 ps.length c1, .slice A2 rs.length c2], .agg #[.slice B1 qs.length d1, .slice B2 ss.length d2]] w fun e w' => e = .returned (.bool (decide (ps = qs) && decide (rs = ss))) ∧ Below w.heap.size w w' := by
  obtain ⟨x, hx⟩ : ∃ x, decide (ps = qs) = x := ⟨_, rfl⟩
  obtain ⟨y, hy⟩ : ∃ y, decide (rs = ss) = y := ⟨_, rfl⟩
  have C1 : Hid (∀ W : World, RdI W w.heap.size A1 ps → RdI W w.heap.size B1 qs → Calls Tryz.prog 85 #[.slice A1 ps.length c1, .slice B1 qs.length d1] W fun e w' => e = .returned (.bool x) ∧ W = w') := fun W k1 k2 => by have := same_any A1 B1 c1 d1 ps qs W _ k1 k2 (by omega); rw [hx] at this; exact this
  have C2 : Hid (∀ W : World, RdI W w.heap.size A2 rs → RdI W w.heap.size B2 ss → Calls Tryz.prog 85 #[.slice A2 rs.length c2, .slice B2 ss.length d2] W fun e w' => e = .returned (.bool y) ∧ W = w') := fun W k1 k2 => by have := same_any A2 B2 c2 d2 rs ss W _ k1 k2 (by omega); rw [hy] at this; exact this
  rw [hx, hy]
  clear hx hy hp hr
  rcases x with _ | _
  all_goals
    go_enter Tryz.func39, Tryz.ntmps39
    go_wp2_with (first
      | (go_at_call 85; (with_reducible refine (C1.out _ (two_rdi h1 _ _) (two_rdi h3 _ _)).mono ?_); rintro e w1 ⟨rfl, rfl⟩)
      | (go_at_call 85; (with_reducible refine (C2.out _ (two_rdi h2 _ _) (two_rdi h4 _ _)).mono ?_); rintro e w1 ⟨rfl, rfl⟩))
    go_ret
    exact ⟨by simp, ((Below.refl _ _).alloc (Nat.le_refl _) _).alloc (by simp) _⟩
set_option maxHeartbeats 1000000 in
set_option maxRecDepth 100000 in
theorem refVals_any (A : Option Addr) (c : Nat) (vs : List Int) (w : World) (B : Nat) (hr : RdI w B A vs) (hl : vs.length ≤ 1000000) :
    Calls Tryz.prog 61 #[.slice A vs.length c] w fun e w' => e = .returned (.bool (Ty.right vs)) ∧ w = w' := by
  have hR : Hid (Ty.right vs = (decide (vs.length ≤ 8) && vs.all Ty.val)) := rfl
  go_enter Tryz.func61, Tryz.ntmps61
  go_wp2
  go_loop [3] (fun i => ∃ k : Nat, k ≤ vs.length ∧ i = .int .i64 k ∧ Hid (vs.all Ty.val = (vs.drop k).all Ty.val)) (fun i => vs.length - (intOf i).toNat)
  case atStart => exact ⟨0, by omega, rfl, by simp [Hid]⟩
  case round =>
    obtain ⟨k, hk, rfl, HR⟩ := hrel
    by_cases hkl : k < vs.length
    · obtain ⟨ad, rfl, _, hcell⟩ := hr.at_ hkl
      obtain ⟨t, ht⟩ : ∃ t, vs[k] = t := ⟨_, rfl⟩
      rw [ht] at hcell
      have hd : vs.drop k = t :: vs.drop (k + 1) := drop_eq_cons hkl ht
      rcases hv : Ty.val t with _ | _
      · have hf : Hid (Ty.right vs = false) := by unfold Hid; rw [hR.out, HR.out, hd, List.all_cons, hv]; simp
        have HV := Lib.hid hv
        clear hv ht hd
        go_wp2_with (go_at_call 111; refine (refVal_any _ _).mono ?_; rintro e w1 ⟨rfl, rfl⟩; rw [HV.out])
        go_ret
        exact ⟨by rw [hf.out]; rfl, rfl⟩
      · have hf : Hid (vs.all Ty.val = (vs.drop (k + 1)).all Ty.val) := by unfold Hid; rw [HR.out, hd, List.all_cons, hv, Bool.true_and]
        have HV := Lib.hid hv
        clear hv ht hd
        go_wp2_with (go_at_call 111; refine (refVal_any _ _).mono ?_; rintro e w1 ⟨rfl, rfl⟩; rw [HV.out])
        go_round
        case rel => exact ⟨k + 1, by omega, by go_num, hf⟩
        case measure => simp [intOf]; omega
    · have hf : Hid (Ty.right vs = decide ((vs.length : Int) ≤ 8)) := by
        unfold Hid
        rw [hR.out, HR.out, List.drop_of_length_le (by omega), List.all_nil, Bool.and_true]
        exact decide_eq_decide.2 (by omega)
      go_wp2
      go_ret
      exact ⟨by rw [hf.out]; rfl, rfl⟩
set_option maxHeartbeats 1000000 in
set_option maxRecDepth 100000 in
theorem refRight_any (A1 A2 : Option Addr) (c1 c2 : Nat) (ps rs : List Int) (w : World) (h1 : RdI w w.heap.size A1 ps) (h2 : RdI w w.heap.size A2 rs) (hp : ps.length ≤ 1000) (hr : rs.length ≤ 1000) :
    Calls Tryz.prog 29 #[.agg #[.slice A1 ps.length c1, .slice A2 rs.length c2]] w fun e w' => e = .returned (.bool (Ty.right ps && Ty.right rs)) ∧ Below w.heap.size w w' := by
  obtain ⟨x, hx⟩ : ∃ x, Ty.right ps = x := ⟨_, rfl⟩
  obtain ⟨y, hy⟩ : ∃ y, Ty.right rs = y := ⟨_, rfl⟩
  have C1 : Hid (∀ W : World, RdI W w.heap.size A1 ps → Calls Tryz.prog 61 #[.slice A1 ps.length c1] W fun e w' => e = .returned (.bool x) ∧ W = w') := fun W k => by have := refVals_any A1 c1 ps W _ k (by omega); rw [hx] at this; exact this
  have C2 : Hid (∀ W : World, RdI W w.heap.size A2 rs → Calls Tryz.prog 61 #[.slice A2 rs.length c2] W fun e w' => e = .returned (.bool y) ∧ W = w') := fun W k => by have := refVals_any A2 c2 rs W _ k (by omega); rw [hy] at this; exact this
  rw [hx, hy]
  clear hx hy hp hr
  rcases x with _ | _
  all_goals
    go_enter Tryz.func29, Tryz.ntmps29
    go_wp2_with (first
      | (go_at_call 61; (with_reducible refine (C1.out _ (h1.alloc (Nat.le_refl _) _)).mono ?_); rintro e w1 ⟨rfl, rfl⟩)
      | (go_at_call 61; (with_reducible refine (C2.out _ (h2.alloc (Nat.le_refl _) _)).mono ?_); rintro e w1 ⟨rfl, rfl⟩))
    go_ret
    exact ⟨by simp, (Below.refl _ _).alloc (Nat.le_refl _) _⟩
end Go.Proofs.YtadnfekogmjieaaGreatDoor
