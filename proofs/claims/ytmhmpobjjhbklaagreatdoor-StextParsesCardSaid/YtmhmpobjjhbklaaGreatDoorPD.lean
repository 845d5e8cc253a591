/-
  Layer 40: few, alive, the frame.
-/
import Derived.Test.YtmhmpobjjhbklaaGreatDoorSR4
import Derived.Test.YtmhmpobjjhbklaaGreatDoorPB
import Derived.Test.YtmhmpobjjhbklaaGreatDoorPC
import Derived.Test.YtmhmpobjjhbklaaGreatDoorRows
import Derived.Deep.Slices
import Derived.Deep.Fields
import Derived.ChangeSame
import Derived.OpenShut
import Derived.Stop.FmtTextKit
import Derived.Lib.SmallJoins
import Derived.Lay
import Derived.LaidMore
import Derived.Lib.LaidU8
import Derived.Lib.LaidTab
import Derived.Stop.Joined
import Derived.Stop.LaidErr
import Derived.ProofKit
set_option linter.unusedVariables false
set_option linter.unusedSimpArgs false
namespace Go.Proofs.YtmhmpobjjhbklaaGreatDoor
namespace St
def insSum (l : List Ins) (k : Nat) : Nat := ((l.take k).map fun y => y.args.length + y.outs.length).sum
def edSum (l : List Edge) (k : Nat) : Nat := ((l.take k).map fun e => e.args.length).sum
def bTot (b : Blk) : Nat := b.params.length + b.ins.length + b.fin.args.length + b.fin.edges.length + insSum b.ins 1000 + edSum b.fin.edges 1000
def bSum (l : List Blk) (k : Nat) : Nat := ((l.take k).map bTot).sum
/-- No slice takes more than an address space. -/
structure Big (x : Ssa) : Prop where
  ps : x.ps.length ≤ 17592186044416
  rs : x.rs.length ≤ 17592186044416
  vals : x.vals.length ≤ 17592186044416
  blocks : x.blocks.length ≤ 17592186044416
  blk : ∀ b ∈ x.blocks, b.params.length ≤ 17592186044416 ∧ b.ins.length ≤ 17592186044416 ∧ b.fin.args.length ≤ 17592186044416 ∧ b.fin.edges.length ≤ 17592186044416 ∧
    (∀ y ∈ b.ins, y.args.length ≤ 17592186044416 ∧ y.outs.length ≤ 17592186044416) ∧ ∀ e ∈ b.fin.edges, e.args.length ≤ 17592186044416
theorem sum_le {α : Type} (f : α → Nat) (C : Nat) : ∀ (l : List α) (k : Nat), (∀ x ∈ l, f x ≤ C) → ((l.take k).map f).sum ≤ k * C
  | [], k, _ => by simp
  | x :: l, 0, _ => by simp
  | x :: l, k + 1, h => by
    have h1 := h x (by simp)
    have h2 := sum_le f C l k (fun z hz => h z (by simp [hz]))
    rw [List.take_succ_cons, List.map_cons, List.sum_cons, Nat.succ_mul]
    omega
theorem insSum_le {b : Blk} (h : ∀ y ∈ b.ins, y.args.length ≤ 17592186044416 ∧ y.outs.length ≤ 17592186044416) (k : Nat) : insSum b.ins k ≤ k * 35184372088832 :=
  sum_le _ _ _ _ fun y hy => by have := h y hy; show y.args.length + y.outs.length ≤ _; omega
theorem edSum_le {b : Blk} (h : ∀ e ∈ b.fin.edges, e.args.length ≤ 17592186044416) (k : Nat) : edSum b.fin.edges k ≤ k * 17592186044416 := sum_le _ _ _ _ fun e he => h e he
theorem Big.sum {x : Ssa} (h : Big x) (k : Nat) : bSum x.blocks k ≤ k * 52846926877425664 := by
  refine sum_le _ _ _ _ fun b hb => ?_
  obtain ⟨h1, h2, h3, h4, h5, h6⟩ := h.blk b hb
  have := insSum_le h5 1000
  have := edSum_le h6 1000
  unfold bTot
  omega
end St
open Go.RowKit
open St (InR)
theorem below_drew (W : World) : Below W.heap.size W W.drew := ⟨rfl, rfl, rfl, Nat.le_refl _, fun _ _ => rfl⟩
end Go.Proofs.YtmhmpobjjhbklaaGreatDoor
set_option linter.unusedVariables false
set_option linter.unusedSimpArgs false
namespace Go.Proofs.YtmhmpobjjhbklaaGreatDoor
namespace St
def ex : Ssa := ⟨[1], [1], [1, 1], [⟨[], [⟨0, 0, 0, 0, 0, [], [0]⟩, ⟨3, 103, 0, 0, 0, [0], [1]⟩], ⟨3, 0, [1], [], 0⟩⟩]⟩
def exT : W := [102, 117, 110, 99, 32, 40, 105, 51, 50, 41, 32, 45, 62, 32, 40, 105, 51, 50, 41, 10, 118, 97, 108, 115, 32, 105, 51, 50, 32, 105, 51, 50, 10, 98, 108, 111, 99, 107, 10, 32, 32, 112, 97, 114, 97, 109, 32, 116, 111, 32, 48, 10, 32, 32, 117, 110, 32, 111, 112, 32, 105, 51, 50, 46, 99, 108, 122, 32, 111, 102, 32, 48, 32, 116, 111, 32, 49, 10, 32, 32, 101, 110, 100, 32, 114, 101, 116, 117, 114, 110, 32, 111, 102, 32, 49, 10]
theorem in0 : InR 0 := by unfold InR; omega
theorem in1 : InR 1 := by unfold InR; omega
theorem ex_num : Num ex := by
  refine ⟨fun b hb y hy => ?_, fun b hb => ?_, fun b hb z hz => ?_⟩
  · obtain rfl := List.mem_singleton.1 hb
    dsimp only at hy
    rcases List.mem_cons.1 hy with rfl | hy
    · exact ⟨in0, in0, by decide, by simp, fun z hz => by obtain rfl := List.mem_singleton.1 hz; exact in0⟩
    · obtain rfl := List.mem_singleton.1 hy
      exact ⟨in0, in0, by decide, fun z hz => by obtain rfl := List.mem_singleton.1 hz; exact in0, fun z hz => by obtain rfl := List.mem_singleton.1 hz; exact in1⟩
  · obtain rfl := List.mem_singleton.1 hb
    exact ⟨in0, in0, fun z hz => by obtain rfl := List.mem_singleton.1 hz; exact in1, by simp⟩
  · obtain rfl := List.mem_singleton.1 hb
    simp at hz
theorem ex_few : Few ex := by unfold Few; decide
theorem ex_ok : ex.Ok := few_ok ex_few ex_num
set_option maxRecDepth 100000 in
theorem ex_may : may ex = true := by decide +kernel
theorem itoa0 : Lib.itoa 0 = [48] := by
  show (if (0 : Int) < 0 then _ else Lib.decDigits (0 : Int).toNat) = _
  rw [if_neg (by omega), dec_small (by decide)]
  rfl
theorem itoa1 : Lib.itoa 1 = [49] := by
  show (if (1 : Int) < 0 then _ else Lib.decDigits (1 : Int).toNat) = _
  rw [if_neg (by omega), dec_small (by decide)]
  rfl
set_option maxRecDepth 100000 in
theorem kw0 : kindw 0 = [112, 97, 114, 97, 109] := by decide +kernel
set_option maxRecDepth 100000 in
theorem kw3 : kindw 3 = [117, 110] := by decide +kernel
set_option maxRecDepth 100000 in
theorem ew3 : (word endW 3).1 = [114, 101, 116, 117, 114, 110] := by decide +kernel
set_option maxRecDepth 100000 in
theorem op103 : Opc.name 103 = [105, 51, 50, 46, 99, 108, 122] := by decide +kernel
theorem ex_print : printO ex = exT := by
  rw [print_eq]
  unfold printR
  rw [if_pos ex_may]
  unfold bodyR ex Ty.text Ty.list blkR insR finR opR rfield nR rlist
  simp only [List.map_cons, List.map_nil, List.flatMap_cons, List.flatMap_nil, kw0, kw3, ew3, op103, itoa0, itoa1, Lib.join_one]
  decide
theorem parse_ex : parseO exT = (ex, 0, 0) := by rw [← ex_print]; exact parse_back ex ex_ok ex_may
theorem parse_nil : parseO [] = (empty, 1, 4) := by
  unfold parseO
  rw [split_no (by decide)]
  rfl
end St
end Go.Proofs.YtmhmpobjjhbklaaGreatDoor
set_option linter.unusedVariables false
set_option linter.unusedSimpArgs false
namespace Go.Proofs.YtmhmpobjjhbklaaGreatDoor
open Go.RowKit
open St (InR)
/-- A form that a law holds. -/
structure FAt (w W : World) (K : Nat) (x : St.Ssa) (S : Nat → Prop) (P : Option Addr) (c1 : Nat) (R : Option Addr) (c2 : Nat) (V : Option Addr) (c3 : Nat) (B : Option Addr) (c4 : Nat) : Prop where
  var : Var W K #[.slice P x.ps.length c1, .slice R x.rs.length c2, .slice V x.vals.length c3, .slice B x.blocks.length c4] 27
  frm : SsaAt S W x P R V B
  gl : Glob W
  bel : Below w.heap.size w W
section
variable {w W W' : World} {K : Nat} {x : St.Ssa} {S : Nat → Prop} {P R V B : Option Addr} {c1 c2 c3 c4 : Nat}
theorem FAt.new (h : SsaAt S w x P R V B) (G : Glob w) : FAt w (w.alloc (.cells #[.slice P x.ps.length c1, .slice R x.rs.length c2, .slice V x.vals.length c3, .slice B x.blocks.length c4] 27)) w.heap.size x S P c1 R c2 V c3 B c4 := by
  have hb := (Below.refl w.heap.size w).alloc (Nat.le_refl _) (.cells #[.slice P x.ps.length c1, .slice R x.rs.length c2, .slice V x.vals.length c3, .slice B x.blocks.length c4] 27)
  exact ⟨Var.new _ _ _, h.on hb, G.below hb, hb⟩
theorem FAt.step (h : FAt w W K x S P c1 R c2 V c3 B c4) (hb : Below W.heap.size W W') : FAt w W' K x S P c1 R c2 V c3 B c4 :=
  ⟨var_keep h.var hb, h.frm.on hb, h.gl.below hb, h.bel.trans (hb.mono h.bel.size)⟩
theorem FAt.drew (h : FAt w W K x S P c1 R c2 V c3 B c4) : FAt w W.drew K x S P c1 R c2 V c3 B c4 := h.step (below_drew W)
theorem FAt.cells (h : FAt w W K x S P c1 R c2 V c3 B c4) : W.cell? ⟨K, 0, none⟩ = some (.slice P x.ps.length c1) ∧ W.cell? ⟨K, 1, none⟩ = some (.slice R x.rs.length c2) ∧ W.cell? ⟨K, 2, none⟩ = some (.slice V x.vals.length c3) ∧ W.cell? ⟨K, 3, none⟩ = some (.slice B x.blocks.length c4) := cells4 h.var
end
section
variable {α : Type} {w : World} {g o k : Nat} {R : World → Nat → Nat → α → Prop} {a b : α}
theorem RdT.of1 (h : R w g o a) (hg : g < w.heap.size) : RdT w (fun _ => True) (some ⟨g, o, none⟩) k R [a] := fun _ =>
  ⟨g, o, rfl, trivial, hg, fun i hi => by
    have : i = 0 := by simpa using hi
    subst this
    rw [Nat.zero_mul, Nat.add_zero]
    exact h⟩
theorem RdT.of2 (h : R w g o a) (h' : R w g (o + k) b) (hg : g < w.heap.size) : RdT w (fun _ => True) (some ⟨g, o, none⟩) k R [a, b] := fun _ =>
  ⟨g, o, rfl, trivial, hg, fun i hi => by
    have : i = 0 ∨ i = 1 := by simp at hi; omega
    rcases this with rfl | rfl
    · rw [Nat.zero_mul, Nat.add_zero]; exact h
    · rw [Nat.one_mul]; exact h'⟩
end
theorem below_al {w W : World} (h : Below w.heap.size w W) (o : Obj) : Below w.heap.size w (W.alloc o) := h.alloc h.size o
/-- The example as the law lays it out. -/
theorem ex_at (w : World) (G : Glob w) : ∃ (S : Nat → Prop) (P : Option Addr) (c1 : Nat) (R : Option Addr) (c2 : Nat) (V : Option Addr) (c3 : Nat) (B : Option Addr) (c4 : Nat),
    FAt w (((((((((w.alloc (.cells #[.int .i64 1] 51)).alloc (.cells #[.int .i64 1, .int .i64 1] 51)).alloc (.cells #[.int .i64 0] 3)).alloc (.cells #[.int .i64 0] 3)).alloc (.cells #[.int .i64 1] 3)).alloc
      (.cells #[.int .i64 0, .int .i64 0, .int .i64 0, .int .i64 0, .int .u64 0, .slice none 0 0, .slice (some ⟨w.heap.size + 1 + 1, 0, none⟩) 1 1, .int .i64 3, .int .i64 103, .int .i64 0, .int .i64 0, .int .u64 0, .slice (some ⟨w.heap.size + 1 + 1 + 1, 0, none⟩) 1 1, .slice (some ⟨w.heap.size + 1 + 1 + 1 + 1, 0, none⟩) 1 1] 48)).alloc
      (.cells #[.int .i64 1] 3)).alloc (.cells #[.slice none 0 0, .slice (some ⟨w.heap.size + 1 + 1 + 1 + 1 + 1, 0, none⟩) 2 2, .int .i64 3, .int .i64 0, .slice (some ⟨w.heap.size + 1 + 1 + 1 + 1 + 1 + 1, 0, none⟩) 1 1, .slice none 0 0, .int .i64 0] 44)).alloc
      (.cells #[.slice (some ⟨w.heap.size, 0, none⟩) 1 1, .slice (some ⟨w.heap.size, 0, none⟩) 1 1, .slice (some ⟨w.heap.size + 1, 0, none⟩) 2 2, .slice (some ⟨w.heap.size + 1 + 1 + 1 + 1 + 1 + 1 + 1, 0, none⟩) 1 1] 27)) (w.heap.size + 1 + 1 + 1 + 1 + 1 + 1 + 1 + 1) St.ex S P c1 R c2 V c3 B c4 := by
  refine ⟨fun _ => True, some ⟨w.heap.size, 0, none⟩, 1, some ⟨w.heap.size, 0, none⟩, 1, some ⟨w.heap.size + 1, 0, none⟩, 2, some ⟨w.heap.size + 1 + 1 + 1 + 1 + 1 + 1 + 1, 0, none⟩, 1, ?_⟩
  have hbel := below_al (below_al (below_al (below_al (below_al (below_al (below_al (below_al (below_al (Below.refl w.heap.size w) (.cells #[.int .i64 1] 51)) (.cells #[.int .i64 1, .int .i64 1] 51)) (.cells #[.int .i64 0] 3)) (.cells #[.int .i64 0] 3)) (.cells #[.int .i64 1] 3))
      (.cells #[.int .i64 0, .int .i64 0, .int .i64 0, .int .i64 0, .int .u64 0, .slice none 0 0, .slice (some ⟨w.heap.size + 1 + 1, 0, none⟩) 1 1, .int .i64 3, .int .i64 103, .int .i64 0, .int .i64 0, .int .u64 0, .slice (some ⟨w.heap.size + 1 + 1 + 1, 0, none⟩) 1 1, .slice (some ⟨w.heap.size + 1 + 1 + 1 + 1, 0, none⟩) 1 1] 48))
      (.cells #[.int .i64 1] 3)) (.cells #[.slice none 0 0, .slice (some ⟨w.heap.size + 1 + 1 + 1 + 1 + 1, 0, none⟩) 2 2, .int .i64 3, .int .i64 0, .slice (some ⟨w.heap.size + 1 + 1 + 1 + 1 + 1 + 1, 0, none⟩) 1 1, .slice none 0 0, .int .i64 0] 44))
      (.cells #[.slice (some ⟨w.heap.size, 0, none⟩) 1 1, .slice (some ⟨w.heap.size, 0, none⟩) 1 1, .slice (some ⟨w.heap.size + 1, 0, none⟩) 2 2, .slice (some ⟨w.heap.size + 1 + 1 + 1 + 1 + 1 + 1 + 1, 0, none⟩) 1 1] 27)
  have v0 := ((((((((Var.new w #[.int .i64 1] 51).alloc (.cells #[.int .i64 1, .int .i64 1] 51)).alloc (.cells #[.int .i64 0] 3)).alloc (.cells #[.int .i64 0] 3)).alloc (.cells #[.int .i64 1] 3)).alloc
      (.cells #[.int .i64 0, .int .i64 0, .int .i64 0, .int .i64 0, .int .u64 0, .slice none 0 0, .slice (some ⟨w.heap.size + 1 + 1, 0, none⟩) 1 1, .int .i64 3, .int .i64 103, .int .i64 0, .int .i64 0, .int .u64 0, .slice (some ⟨w.heap.size + 1 + 1 + 1, 0, none⟩) 1 1, .slice (some ⟨w.heap.size + 1 + 1 + 1 + 1, 0, none⟩) 1 1] 48)).alloc
      (.cells #[.int .i64 1] 3)).alloc (.cells #[.slice none 0 0, .slice (some ⟨w.heap.size + 1 + 1 + 1 + 1 + 1, 0, none⟩) 2 2, .int .i64 3, .int .i64 0, .slice (some ⟨w.heap.size + 1 + 1 + 1 + 1 + 1 + 1, 0, none⟩) 1 1, .slice none 0 0, .int .i64 0] 44)).alloc
      (.cells #[.slice (some ⟨w.heap.size, 0, none⟩) 1 1, .slice (some ⟨w.heap.size, 0, none⟩) 1 1, .slice (some ⟨w.heap.size + 1, 0, none⟩) 2 2, .slice (some ⟨w.heap.size + 1 + 1 + 1 + 1 + 1 + 1 + 1, 0, none⟩) 1 1] 27)
  generalize hW : (((((((((w.alloc (.cells #[.int .i64 1] 51)).alloc (.cells #[.int .i64 1, .int .i64 1] 51)).alloc (.cells #[.int .i64 0] 3)).alloc (.cells #[.int .i64 0] 3)).alloc (.cells #[.int .i64 1] 3)).alloc
      (.cells #[.int .i64 0, .int .i64 0, .int .i64 0, .int .i64 0, .int .u64 0, .slice none 0 0, .slice (some ⟨w.heap.size + 1 + 1, 0, none⟩) 1 1, .int .i64 3, .int .i64 103, .int .i64 0, .int .i64 0, .int .u64 0, .slice (some ⟨w.heap.size + 1 + 1 + 1, 0, none⟩) 1 1, .slice (some ⟨w.heap.size + 1 + 1 + 1 + 1, 0, none⟩) 1 1] 48)).alloc
      (.cells #[.int .i64 1] 3)).alloc (.cells #[.slice none 0 0, .slice (some ⟨w.heap.size + 1 + 1 + 1 + 1 + 1, 0, none⟩) 2 2, .int .i64 3, .int .i64 0, .slice (some ⟨w.heap.size + 1 + 1 + 1 + 1 + 1 + 1, 0, none⟩) 1 1, .slice none 0 0, .int .i64 0] 44)).alloc
      (.cells #[.slice (some ⟨w.heap.size, 0, none⟩) 1 1, .slice (some ⟨w.heap.size, 0, none⟩) 1 1, .slice (some ⟨w.heap.size + 1, 0, none⟩) 2 2, .slice (some ⟨w.heap.size + 1 + 1 + 1 + 1 + 1 + 1 + 1, 0, none⟩) 1 1] 27)) = W at hbel v0 ⊢
  have v1 : Var W (w.heap.size + 1) #[.int .i64 1, .int .i64 1] 51 := by rw [← hW]; exact (((((((Var.newE _ _ _ (by simp)).alloc _).alloc _).alloc _).alloc _).alloc _).alloc _).alloc _
  have v2 : Var W (w.heap.size + 1 + 1) #[.int .i64 0] 3 := by rw [← hW]; exact ((((((Var.newE _ _ _ (by simp)).alloc _).alloc _).alloc _).alloc _).alloc _).alloc _
  have v3 : Var W (w.heap.size + 1 + 1 + 1) #[.int .i64 0] 3 := by rw [← hW]; exact (((((Var.newE _ _ _ (by simp)).alloc _).alloc _).alloc _).alloc _).alloc _
  have v4 : Var W (w.heap.size + 1 + 1 + 1 + 1) #[.int .i64 1] 3 := by rw [← hW]; exact ((((Var.newE _ _ _ (by simp)).alloc _).alloc _).alloc _).alloc _
  have v5 : Var W (w.heap.size + 1 + 1 + 1 + 1 + 1) #[.int .i64 0, .int .i64 0, .int .i64 0, .int .i64 0, .int .u64 0, .slice none 0 0, .slice (some ⟨w.heap.size + 1 + 1, 0, none⟩) 1 1, .int .i64 3, .int .i64 103, .int .i64 0, .int .i64 0, .int .u64 0, .slice (some ⟨w.heap.size + 1 + 1 + 1, 0, none⟩) 1 1, .slice (some ⟨w.heap.size + 1 + 1 + 1 + 1, 0, none⟩) 1 1] 48 := by rw [← hW]; exact (((Var.newE _ _ _ (by simp)).alloc _).alloc _).alloc _
  have v6 : Var W (w.heap.size + 1 + 1 + 1 + 1 + 1 + 1) #[.int .i64 1] 3 := by rw [← hW]; exact ((Var.newE _ _ _ (by simp)).alloc _).alloc _
  have v7 : Var W (w.heap.size + 1 + 1 + 1 + 1 + 1 + 1 + 1) #[.slice none 0 0, .slice (some ⟨w.heap.size + 1 + 1 + 1 + 1 + 1, 0, none⟩) 2 2, .int .i64 3, .int .i64 0, .slice (some ⟨w.heap.size + 1 + 1 + 1 + 1 + 1 + 1, 0, none⟩) 1 1, .slice none 0 0, .int .i64 0] 44 := by rw [← hW]; exact (Var.newE _ _ _ (by simp)).alloc _
  have v8 : Var W (w.heap.size + 1 + 1 + 1 + 1 + 1 + 1 + 1 + 1) #[.slice (some ⟨w.heap.size, 0, none⟩) 1 1, .slice (some ⟨w.heap.size, 0, none⟩) 1 1, .slice (some ⟨w.heap.size + 1, 0, none⟩) 2 2, .slice (some ⟨w.heap.size + 1 + 1 + 1 + 1 + 1 + 1 + 1, 0, none⟩) 1 1] 27 := by rw [← hW]; exact Var.newE _ _ _ (by simp)
  clear hW
  refine ⟨v8, ⟨RdT.of1 (v0.cells 0) v0.lt, RdT.of1 (v0.cells 0) v0.lt, RdT.of2 (v1.cells 0) (v1.cells 1) v1.lt, RdT.of1 ?_ v7.lt⟩, G.below hbel, hbel⟩
  refine ⟨⟨_, _, v7.cells 0, RdT.nil_⟩, ⟨_, _, v7.cells 1, RdT.of2 ?_ ?_ v5.lt⟩, v7.cells 2, v7.cells 3, ⟨_, _, v7.cells 4, RdT.of1 (v6.cells 0) v6.lt⟩, ⟨_, _, v7.cells 5, RdT.nil_⟩, v7.cells 6⟩
  · exact ⟨v5.cells 0, v5.cells 1, v5.cells 2, v5.cells 3, v5.cells 4, ⟨_, _, v5.cells 5, RdT.nil_⟩, _, _, v5.cells 6, RdT.of1 (v2.cells 0) v2.lt⟩
  · exact ⟨v5.cells 7, v5.cells 8, v5.cells 9, v5.cells 10, v5.cells 11, ⟨_, _, v5.cells 12, RdT.of1 (v3.cells 0) v3.lt⟩, _, _, v5.cells 13, RdT.of1 (v4.cells 0) v4.lt⟩
set_option maxHeartbeats 4000000 in
set_option maxRecDepth 100000 in
theorem alive_any (w : World) (G : Glob w) : Calls Tryz.prog 8 #[] w fun e w' => e = .returned (.bool true) ∧ Below w.heap.size w w' := by
  have HEX := Lib.hid (ex_at w G)
  have HP := Lib.hid (fun S P c1 R c2 V c3 B c4 W (h : SsaAt S W St.ex P R V B) (G : Glob W) => sprint_any St.ex St.ex_ok (St.few_len St.ex_few St.ex_num) S P R V B c1 c2 c3 c4 W h G)
  have HS := Lib.hid (fun W (G : Glob W) => sparse_any St.exT (by decide) (St.split_lnok (by decide)).1 W G)
  have HS0 := Lib.hid (fun W (G : Glob W) => sparse_any [] (by decide) (St.split_lnok (by decide)).1 W G)
  have HSM := Lib.hid (fun (S T : Nat → Prop) P R V B c1 c2 c3 c4 P2 R2 V2 B2 d1 d2 d3 d4 W (h1 : SsaAt S W St.ex P R V B) (h2 : SsaAt T W St.ex P2 R2 V2 B2) => rsame_any S T St.ex St.ex St.ex_ok P R V B P2 R2 V2 B2 c1 c2 c3 c4 d1 d2 d3 d4 W h1 h2)
  rw [St.ex_print] at HP
  rw [St.parse_ex] at HS
  rw [St.parse_nil] at HS0
  rw [(St.ssaSame_iff St.ex St.ex).2 rfl] at HSM
  unfold ParseOut at HS HS0
  unfold ssaV at HP HS HS0 HSM
  have heq : (St.exT == [102, 117, 110, 99, 32, 40, 105, 51, 50, 41, 32, 45, 62, 32, 40, 105, 51, 50, 41, 10, 118, 97, 108, 115, 32, 105, 51, 50, 32, 105, 51, 50, 10, 98, 108, 111, 99, 107, 10, 32, 32, 112, 97, 114, 97, 109, 32, 116, 111, 32, 48, 10, 32, 32, 117, 110, 32, 111, 112, 32, 105, 51, 50, 46, 99, 108, 122, 32, 111, 102, 32, 48, 32, 116, 111, 32, 49, 10, 32, 32, 101, 110, 100, 32, 114, 101, 116, 117, 114, 110, 32, 111, 102, 32, 49, 10]) = true := by decide
  obtain ⟨T, hT⟩ : ∃ T, St.exT = T := ⟨_, rfl⟩
  rw [hT] at HP HS heq
  obtain ⟨x, hx⟩ : ∃ x, St.ex = x := ⟨_, rfl⟩
  rw [hx] at HP HS HSM HEX
  obtain ⟨⟨ps, rs, vals, blocks⟩, hx2⟩ : ∃ y, x = y := ⟨_, rfl⟩
  rw [hx2] at HP HS HSM HEX
  dsimp only at HP HS HS0 HSM
  have HQ := Lib.hid heq
  clear hT hx hx2 G heq
  go_enter Tryz.func8, Tryz.ntmps8
  go_upto_region 3 with fail
  refine at_code (F := fun W => ∃ (S : Nat → Prop) (P : Option Addr) (c1 : Nat) (R : Option Addr) (c2 : Nat) (V : Option Addr) (c3 : Nat) (B : Option Addr) (c4 : Nat), FAt w W (w.heap.size + 1 + 1 + 1 + 1 + 1 + 1 + 1 + 1) ⟨ps, rs, vals, blocks⟩ S P c1 R c2 V c3 B c4) HEX.out ?_
  rintro W0 ⟨S, P, c1, R, c2, V, c3, B, c4, I0⟩
  obtain ⟨d0, d1, d2, d3⟩ := I0.cells
  dsimp only at d0 d1 d2 d3
  obtain ⟨K, hK⟩ : ∃ K, w.heap.size + 1 + 1 + 1 + 1 + 1 + 1 + 1 + 1 = K := ⟨_, rfl⟩
  rw [hK] at d0 d1 d2 d3 I0
  simp only [hK]
  go_upto_region 5 with (first
    | (go_at_call 9; with_reducible refine (HP.out _ _ _ _ _ _ _ _ _ _ I0.frm I0.gl).mono ?_; rintro e w1 ⟨rfl, hb⟩; have I1 := I0.step hb; clear hb d0 d1 d2 d3 I0)
    | (go_at_call 11; with_reducible refine (HS.out _ I1.gl).mono ?_; rintro e w3 ⟨⟨S', P', e1, R', e2, V', e3, B', e4, rfl, hsa⟩, hb⟩; have HJ := Lib.hid (I1.step hb); have HSA := Lib.hid hsa; clear hb I1 hsa))
  refine at_code (F := fun W => FAt w W K ⟨ps, rs, vals, blocks⟩ S P c1 R c2 V c3 B c4 ∧ FAt w3 W w3.heap.size ⟨ps, rs, vals, blocks⟩ S' P' e1 R' e2 V' e3 B' e4) ⟨HJ.out.step ((Below.refl _ _).alloc (Nat.le_refl _) _), FAt.new HSA.out HJ.out.gl⟩ ?_
  rintro w4 ⟨I4, J4⟩
  have HJ4 := Lib.hid J4
  clear J4
  obtain ⟨K2, hK2⟩ : ∃ K2, w3.heap.size = K2 := ⟨_, rfl⟩
  rw [hK2] at HJ4
  simp only [hK2]
  clear hK2
  go_upto_region 6 with (go_at_call 11; with_reducible refine (HS0.out _ I4.gl).mono ?_; rintro e w5 ⟨⟨S5, P5, f1, R5, f2, V5, f3, B5, f4, rfl, hsa⟩, hb⟩; have HI5 := Lib.hid (I4.step hb); have HJ5 := Lib.hid (HJ4.out.step hb); clear hb I4 hsa HJ4)
  refine at_code (F := fun W => FAt w W K ⟨ps, rs, vals, blocks⟩ S P c1 R c2 V c3 B c4 ∧ FAt w3 W K2 ⟨ps, rs, vals, blocks⟩ S' P' e1 R' e2 V' e3 B' e4) ⟨HI5.out.step ((Below.refl _ _).alloc (Nat.le_refl _) _), HJ5.out.step ((Below.refl _ _).alloc (Nat.le_refl _) _)⟩ ?_
  rintro w6 ⟨I6, J6⟩
  obtain ⟨d0, d1, d2, d3⟩ := I6.cells
  obtain ⟨h0, h1, h2, h3⟩ := J6.cells
  dsimp only at d0 d1 d2 d3 h0 h1 h2 h3
  have hq := HQ.out
  go_wp2_with (go_at_call 13; with_reducible refine (HSM.out _ _ _ _ _ _ _ _ _ _ _ _ _ _ _ _ _ _ _ I6.frm J6.frm).mono ?_; rintro e w7 ⟨rfl, hb⟩; have I7 := (I6.step hb); clear hb d0 d1 d2 d3 h0 h1 h2 h3 I6 J6)
  go_ret
  exact ⟨rfl, I7.bel⟩
end Go.Proofs.YtmhmpobjjhbklaaGreatDoor
set_option linter.unusedVariables false
set_option linter.unusedSimpArgs false
namespace Go.Proofs.YtmhmpobjjhbklaaGreatDoor
open Go.ChangeShapes Go.WideShapes Go.Deep Go.RowKit
open St (InR)
theorem add_plain (g o n : Nat) : (⟨g, o, none⟩ : Addr).add n = ⟨g, o + n, none⟩ := by
  unfold Addr.add
  split
  · rename_i h; subst h; rfl
  · rfl
section
variable {H : Type} {enc : TypeId × Value → H} {w : World} {base : Nat} {held : Bool} {spare : Nat → Bool}
end
end Go.Proofs.YtmhmpobjjhbklaaGreatDoor
set_option linter.unusedVariables false
set_option linter.unusedSimpArgs false
namespace Go.Proofs.YtmhmpobjjhbklaaGreatDoor
open Go.ChangeShapes Go.WideShapes Go.ChangeAt Go.RowKit Go.Joins Go.Deep
def laid9 : List (String × DataW Unit) := [("math/bits.deBruijn32tab", Rows.laid_math_bits_deBruijn32tab), ("math/bits.deBruijn64tab", Rows.laid_math_bits_deBruijn64tab), ("internal/strconv.uint64pow10", Rows.laid_internal_strconv_uint64pow10), ("unicode/utf8.acceptRanges", Rows.laid_unicode_utf8_acceptRanges), ("strconv.ErrRange", Rows.laid_strconv_ErrRange), ("strconv.ErrSyntax", Rows.laid_strconv_ErrSyntax), ("unicode.White_Space", Rows.laid_unicode_White_Space), ("strings.asciiSpace", Rows.laid_strings_asciiSpace), ("unicode/utf8.first", Rows.laid_unicode_utf8_first)]
set_option maxRecDepth 100000 in
theorem laid_pow : (Rows.laid_internal_strconv_uint64pow10 : DataW Unit) = Lib.tabData .u64 Lib.pow10Tab := by kernel_rfl
set_option maxRecDepth 100000 in
theorem laid_spc : (Rows.laid_strings_asciiSpace : DataW Unit) = Lib.tabData .u8 Lib.asciiSpaceTab := by kernel_rfl
set_option maxRecDepth 100000 in
theorem laid_wht : (Rows.laid_unicode_White_Space : DataW Unit) = Lib.whiteData := by kernel_rfl
set_option maxRecDepth 100000 in
theorem white_extra : WhiteExtra Tryz.prog Tryz.lays199_ren := ⟨by kernel_rfl, by kernel_rfl, by kernel_rfl, by kernel_rfl, by kernel_rfl, by kernel_rfl, by kernel_rfl, by kernel_rfl⟩
set_option maxRecDepth 100000 in
theorem wht_of {W : World} (hL : laidMet Tryz.prog laid9 W) : Lib.WhiteTab 1 W := by
  have h := whiteTab_of_reads Tryz.lays199 white_extra (w := W) (by
    rw [← laid_wht]
    exact Lib.laidMet.reads hL (by unfold laid9; simp))
  exact h
theorem star_errorString : "*" ++ "errors.errorString" = "*errors.errorString" := by decide
theorem row_errorString (u : TypeId) (h : Tryz.prog.typeName? 3 u = some "*errors.errorString") : u = 218 :=
  typeName_ptr_named (nm := "errors.errorString") (by rw [star_errorString]; kernel_rfl) (by kernel_rfl) (by decide) u (by rw [star_errorString]; exact h)
set_option maxRecDepth 100000 in
theorem glob_of_laid {W : World} (h : laidMetH Tryz.prog laid9 W) (hS : W.ShapedOpen Tryz.prog) : Glob W := by
  rw [MakeChecks.laidMetH_plain _ _ _ (by kernel_rfl)] at h
  obtain ⟨g2, e2, f2⟩ : ∃ g, Tryz.prog.globalNamed "internal/strconv.uint64pow10" = some g ∧ (Tryz.prog.globals[g]?).map (·.type) = some 182 := ⟨_, rfl, by kernel_rfl⟩
  obtain ⟨g7, e7, f7⟩ : ∃ g, Tryz.prog.globalNamed "strings.asciiSpace" = some g ∧ (Tryz.prog.globals[g]?).map (·.type) = some 127 := ⟨_, rfl, by kernel_rfl⟩
  have hw := wht_of h
  have h2 := h.tail.tail
  have h7 := h2.tail.tail.tail.tail.tail
  rw [laid_pow] at h2
  rw [laid_spc] at h7
  have hL := h.tail.tail.tail.tail
  obtain ⟨g3, e3, f3⟩ : ∃ g, Tryz.prog.globalNamed "strconv.ErrRange" = some g ∧ (Tryz.prog.globals[g]?).map (·.type) = some 97 := ⟨_, rfl, by kernel_rfl⟩
  obtain ⟨g4, e4, f4⟩ : ∃ g, Tryz.prog.globalNamed "strconv.ErrSyntax" = some g ∧ (Tryz.prog.globals[g]?).map (·.type) = some 97 := ⟨_, rfl, by kernel_rfl⟩
  obtain ⟨a0, s0, hv0, -, -, -⟩ := laid_sentinel hL e3 f3 Tryz.underlying97 row_errorString Tryz.underlying218 Tryz.underlying220 rfl rfl Tryz.underlying9 (by kernel_rfl) (by kernel_rfl)
  obtain ⟨a1, s1, hv1, -, -, -⟩ := laid_sentinel hL.tail e4 f4 Tryz.underlying97 row_errorString Tryz.underlying218 Tryz.underlying220 rfl rfl Tryz.underlying9 (by kernel_rfl) (by kernel_rfl)
  exact ⟨Lib.tabIs_of_head e2 f2 Tryz.underlying182 Tryz.underlying46 (by kernel_rfl) (by kernel_rfl) h2, ⟨_, _, hv1⟩, ⟨_, _, hv0⟩, Lib.tabIs_of_head e7 f7 Tryz.underlying127 Tryz.underlying5 (by kernel_rfl) (by kernel_rfl) h7, hw, Tryz.laysM219.s1_3 W hS⟩
set_option maxRecDepth 100000 in
theorem laid9_met (os : Os) (args : Array Value) : laidMetH Tryz.prog laid9 ((World.laidAll Tryz.prog os laid9).forCall (fun _ _ => 0) ⟨#[], args, []⟩).memory := by
  rw [MakeChecks.laidMetH_plain _ _ _ (by kernel_rfl)]
  exact laidMet_laidAll _ (by kernel_rfl) (by kernel_rfl)
set_option maxRecDepth 100000 in
theorem laid9_shaped (os : Os) (args : Array Value) : ((World.laidAll Tryz.prog os laid9).forCall (fun _ _ => 0) ⟨#[], args, []⟩).Shaped Tryz.prog :=
  World.shaped_of_ZipB (by kernel_rfl) (by kernel_rfl)
end Go.Proofs.YtmhmpobjjhbklaaGreatDoor
