/-
  Layer 27, the program: Right, Text, Zero, Parse.
-/
import Derived.Test.YtilflcbmejhepaaDoorValLib
import Derived.Handy
set_option linter.unusedVariables false
set_option linter.unusedSimpArgs false
namespace Go.Proofs.YtilflcbmejhepaaDoor
open Go.RowKit
open Val (V)

def vv (v : V) : Value := .agg #[.int .i64 v.t, .int .u64 (v.n : Int)]
def Var (w : World) (K : Nat) (cs : Array Value) (t : TypeId) : Prop := w.heap[K]? = some (.cells cs t (0, 0))
section
variable {w w' : World} {K : Nat} {cs : Array Value} {t : TypeId}
theorem Var.cells (h : Var w K cs t) : ∀ o, w.cell? ⟨K, o, none⟩ = cs[o]? := fun o => cell_of_row _ _ _ _ _ _ h
theorem Var.froz (h : Var w K cs t) : ∀ o, w.frozen? ⟨K, o, none⟩ = false := fun o => frozen_of_row _ _ _ _ _ h
theorem Var.lt (h : Var w K cs t) : K < w.heap.size := (Array.getElem?_eq_some_iff.1 h).1
theorem Var.new (W : World) (cs : Array Value) (e : TypeId) : Var (W.alloc (.cells cs e)) W.heap.size cs e := heap_alloc_new W _
theorem Var.newE (W : World) (cs : Array Value) (e : TypeId) {K : Nat} (h : W.heap.size = K) : Var (W.alloc (.cells cs e)) K cs e := h ▸ Var.new W cs e
theorem Var.below {B : Nat} (h : Var w K cs t) (hb : Below B w w') (hK : K < B) : Var w' K cs t := (hb.block K hK).trans h
theorem Var.alloc (h : Var w K cs t) (o : Obj) : Var (w.alloc o) K cs t := (Below.heap_alloc _ _ _ h.lt).trans h
theorem Var.set (h : Var w K cs t) (o : Nat) (u : Value) : Var (w.setCell ⟨K, o, none⟩ u) K (cs.setIfInBounds o u) t := Go.heap_setCell_same w K o _ _ u h
theorem Var.other (h : Var w K cs t) {K' : Nat} (hne : K ≠ K') (o : Nat) (u : Value) : Var (w.setCell ⟨K', o, none⟩ u) K cs t := (Below.heap_setCell _ _ _ _ hne).trans h
end

theorem below_one {w w1 : World} {o : Obj} (h1 : Below (w.alloc o).heap.size (w.alloc o) w1) : Below w.heap.size w w1 :=
  ((Below.refl w.heap.size w).alloc (Nat.le_refl _) o).trans (h1.mono (by simp))
theorem below_box {w w1 w2 : World} {o : Obj} (h1 : Below (w.alloc o).heap.size (w.alloc o) w1) (h2 : Below w1.heap.size w1 w2) : Below w.heap.size w w2 :=
  (below_one h1).trans (h2.mono (below_one h1).size)
theorem Tab.on {w w' : World} {B : Nat} (h : Tab w) (hb : Below B w w') (hB : w.heap.size ≤ B) : Tab w' := var_below h (hb.mono hB)
theorem right_bool (v : V) : Val.right v = (((v.t == 1 || v.t == 2) || (v.t == 3 || v.t == 4)) && ((!(v.t == 1)) || decide ((v.n : Int) < 4294967296))) := by
  rw [Bool.eq_iff_iff, Val.right_iff]
  simp
  omega

def numB (t : Int) : Bool := t == 1 || t == 2
def refB (t : Int) : Bool := t == 3 || t == 4
def valB (t : Int) : Bool := numB t || refB t
theorem num_any (t : Int) (w : World) : Calls Tryd.prog 40 #[.int .i64 t] w fun e w' => e = .returned (.bool (numB t)) ∧ w = w' := by
  unfold numB
  rcases h1 : (t == 1) with _ | _ <;> rcases h2 : (t == 2) with _ | _
  all_goals
    go_enter Tryd.func40, Tryd.ntmps40
    go_wp2
    go_ret
    exact ⟨rfl, rfl⟩
theorem ref_any (t : Int) (w : World) : Calls Tryd.prog 41 #[.int .i64 t] w fun e w' => e = .returned (.bool (refB t)) ∧ w = w' := by
  unfold refB
  rcases h1 : (t == 3) with _ | _ <;> rcases h2 : (t == 4) with _ | _
  all_goals
    go_enter Tryd.func41, Tryd.ntmps41
    go_wp2
    go_ret
    exact ⟨rfl, rfl⟩
theorem val_any (t : Int) (w : World) : Calls Tryd.prog 26 #[.int .i64 t] w fun e w' => e = .returned (.bool (valB t)) ∧ w = w' := by
  unfold valB
  rcases h1 : numB t with _ | _ <;> rcases h2 : refB t with _ | _
  all_goals
    have H1 := Lib.hid h1
    have H2 := Lib.hid h2
    clear h1 h2
    go_enter Tryd.func26, Tryd.ntmps26
    go_wp2_with (first | (go_at_call 40; refine (num_any _ _).mono ?_; rintro e w1 ⟨rfl, rfl⟩; rw [H1.out]) | (go_at_call 41; refine (ref_any _ _).mono ?_; rintro e w1 ⟨rfl, rfl⟩; rw [H2.out]))
    go_ret
    exact ⟨rfl, rfl⟩
theorem right_split (v : V) : Val.right v = (valB v.t && ((!(v.t == 1)) || decide ((v.n : Int) < 4294967296))) := right_bool v

set_option maxHeartbeats 2000000 in
theorem right_any (v : V) (hn : v.n < 18446744073709551616) (w : World) : Calls Tryd.prog 8 #[vv v] w fun e w' => e = .returned (.bool (Val.right v)) ∧ Below w.heap.size w w' := by
  rw [right_split v]
  obtain ⟨t, n⟩ := v
  unfold vv
  dsimp only
  rcases h0 : valB t with _ | _ <;> rcases h1 : (t == 1) with _ | _ <;> rcases h2 : decide ((n : Int) < 4294967296) with _ | _
  all_goals
    have n1 : (t != 1) = !(t == 1) := rfl
    rw [h1] at n1
    have H0 := Lib.hid h0
    clear h0
    go_enter Tryd.func8, Tryd.ntmps8
    go_wp2_with (go_at_call 26; refine (val_any _ _).mono ?_; rintro e w1 ⟨rfl, rfl⟩; rw [H0.out])
    go_ret
    exact ⟨rfl, by go_grown⟩

set_option maxHeartbeats 2000000 in
theorem zero_any (t : Int) (w : World) : Calls Tryd.prog 12 #[.int .i64 t] w fun e w' => e = .returned (vv ⟨if valB t = true then t else 0, 0⟩) ∧ Below w.heap.size w w' := by
  rcases h0 : valB t with _ | _
  all_goals
    have H0 := Lib.hid h0
    clear h0
    go_enter Tryd.func12, Tryd.ntmps12
    go_wp2_with (go_at_call 26; refine (val_any _ _).mono ?_; rintro e w1 ⟨rfl, rfl⟩; rw [H0.out])
    go_returns
    exact ⟨rfl, by go_grown⟩

set_option maxHeartbeats 2000000 in
set_option maxRecDepth 100000 in
theorem lcut_any (l : List UInt8) (hl : l.length ≤ 1000000) (w : World) : Calls Tryd.prog 55 #[.string ⟨l.toArray⟩, .string ⟨#[32]⟩] w fun e w' =>
    e = .returned (.tuple #[.string ⟨(Lib.cut l [32]).1.toArray⟩, .string ⟨(Lib.cut l [32]).2.1.toArray⟩, .bool (Lib.cut l [32]).2.2]) ∧ Below w.heap.size w w' := by
  have hI := fun w => Tryd.stringslite_Index_one ⟨l.toArray⟩ 32 w
  have HI := Lib.hid hI
  clear hI
  rcases Lib.indexB_cases ⟨l.toArray⟩ ⟨#[32]⟩ with hix | ⟨i, hix, hroom⟩
  · obtain ⟨e1, e2, e3⟩ := Lib.cutB_miss ⟨l.toArray⟩ ⟨#[32]⟩ hix
    have hx : Lib.indexByte l 32 = -1 := (Lib.index_one l 32).symm.trans hix
    have HX := Lib.hid hx
    have E1 := Lib.hid e1; have E2 := Lib.hid e2; have E3 := Lib.hid e3
    clear hix hx e1 e2 e3
    go_enter Tryd.func55, Tryd.ntmps55
    go_wp2_with (go_at_call 64; refine (HI.out _).mono ?_; rintro e w' ⟨rfl, rfl⟩; rw [show Lib.indexByte (ByteArray.mk l.toArray).data.toList 32 = _ from HX.out])
    go_ret3
    exact ⟨by rw [show (⟨(Lib.cut l [32]).1.toArray⟩ : ByteArray) = _ from E1.out, show (⟨(Lib.cut l [32]).2.1.toArray⟩ : ByteArray) = _ from E2.out, show (Lib.cut l [32]).2.2 = _ from E3.out]; rfl, Below.refl _ _⟩
  · obtain ⟨e1, e2, e3⟩ := Lib.cutB_hit ⟨l.toArray⟩ ⟨#[32]⟩ i hix
    have hx : Lib.indexByte l 32 = i := (Lib.index_one l 32).symm.trans hix
    have hsz : (ByteArray.mk l.toArray).size = l.length := by simp [ByteArray.size]
    have hs1 : (ByteArray.mk #[32]).size = 1 := rfl
    rw [hsz, hs1] at hroom
    have HX := Lib.hid hx
    have E1 := Lib.hid e1; have E2 := Lib.hid e2; have E3 := Lib.hid e3
    clear hix hx e1 e2 e3
    have c1 : (0 : Int) ≤ ↑i := by omega
    have c2 : (i : Int) ≤ ((ByteArray.mk l.toArray).size : Int) := by omega
    have c3 : (0 : Int) ≤ (i : Int) + 1 := by omega
    have c4 : (i : Int) + 1 ≤ ((ByteArray.mk l.toArray).size : Int) := by omega
    have c5 : decide ((0 : Int) ≤ i) = true := by simp
    go_enter Tryd.func55, Tryd.ntmps55
    go_wp2_with (go_at_call 64; refine (HI.out _).mono ?_; rintro e w' ⟨rfl, rfl⟩; rw [show Lib.indexByte (ByteArray.mk l.toArray).data.toList 32 = _ from HX.out])
    go_quiet (fail)
    go_wp2
    go_ret3
    exact ⟨by rw [show (⟨(Lib.cut l [32]).1.toArray⟩ : ByteArray) = _ from E1.out, show (⟨(Lib.cut l [32]).2.1.toArray⟩ : ByteArray) = _ from E2.out, show (Lib.cut l [32]).2.2 = _ from E3.out]; rfl, below_drewN _ _⟩
theorem cut_any (l : List UInt8) (hl : l.length ≤ 1000000) (w : World) : Calls Tryd.prog 46 #[.string ⟨l.toArray⟩, .string ⟨#[32]⟩] w fun e w' =>
    e = .returned (.tuple #[.string ⟨(Lib.cut l [32]).1.toArray⟩, .string ⟨(Lib.cut l [32]).2.1.toArray⟩, .bool (Lib.cut l [32]).2.2]) ∧ Below w.heap.size w w' := by
  have HC := Lib.hid (lcut_any l hl w)
  go_enter Tryd.func46, Tryd.ntmps46
  go_wp2_with (go_at_call 55; refine HC.out.mono ?_; rintro e w1 ⟨rfl, hb⟩)
  go_ret3
  exact ⟨rfl, hb⟩
end Go.Proofs.YtilflcbmejhepaaDoor
