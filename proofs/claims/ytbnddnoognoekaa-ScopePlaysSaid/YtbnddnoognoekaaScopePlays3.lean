/-
  The walk of the law ScopePlays.
-/
import Derived.Test.YtbnddnoognoekaaScopePlays2
import Derived.Test.YtbnddnoognoekaaScopeFinds2
import Derived.Deep.LoopGhost
import Derived.Deep.CutBlock
import Derived.Deep.DeepCutAuto
set_option linter.unusedVariables false
namespace Go.Proofs.Ytbnddnoognoekaa
open Go.RowKit Go.Maps

theorem info_rscope : (Try.prog.info? 39).map (·.size) = some 10 := by kernel_rfl
theorem exec_load_row {P : Program} {oi : Oper} {a : Act} (ty : TypeId) (x : Operand) (ho : oi.op = .load ty x) (g : Nat) (hx : a.eval x = .pointer (some ⟨g, 0, none⟩)) (w : World) (t : TypeId) (cs : Array Value) (fr : Nat × Nat) (d : TypeDesc) (hg : w.heap[g]? = some (.cells cs t fr))
    (hu : P.underlying ty = some d) (hd : (match d with | .struct _ | .array _ _ => true | _ => false) = true) (hi : (P.info? ty).map (·.size) = some cs.size) : (execOp a.eval oi).run P w = .ok (.value (.agg cs)) w := by
  unfold execOp
  simp only [ho, hx, Instr.loadAt, Instr.sureAddr, Sem.run_bind, Sem.run_pure, Result.andThen_ok, run_loadVar_row w g t ty cs fr d hg hu hd hi]
theorem GoodS.start : GoodS ⟨fun _ => [], []⟩ 0 := ⟨fun _ _ => Uq.nil, fun _ _ => by simp, fun _ _ x hx => by simp at hx, by simp⟩
theorem RefIs.start (W : World) : RefIs W (fun _ => .slice none 0 0) (.slice none 0 0) ⟨fun _ => [], []⟩ := ⟨fun _ _ => ⟨none, 0, rfl, Reads.none_⟩, none, 0, rfl, Reads.none_, by simp⟩
theorem Mid.start {w w1 w2 : World} {B : Nat} {y0 : Lay} (h0 : ScopeAt w1 B (B + 1) y0 ⟨fun _ => [], []⟩) (b0 : Below B w w1) (b2 : Below w1.heap.size w1 w2) :
    Mid w (World.setRow (w2.alloc (.cells #[.slice none 0 0, .slice none 0 0, .slice none 0 0, .slice none 0 0, .slice none 0 0, .slice none 0 0, .slice none 0 0, .slice none 0 0, .slice none 0 0, .slice none 0 0] 39)) w2.heap.size (refCells (fun _ => .slice none 0 0) (.slice none 0 0))) B w2.heap.size y0 ⟨fun _ => [], []⟩ ⟨fun _ => [], []⟩ (fun _ => .slice none 0 0) (.slice none 0 0) := by
  have h2 := h0.below b2
  have hf : ¬ foot y0 (B + 1) w2.heap.size := fun hf => by have := (h2.foot_in hf).2; omega
  have hB : B ≤ w2.heap.size := by have := (h2.foot_in (b := B + 1) (.inl rfl)).2; omega
  have hB1 : B ≤ w1.heap.size := by have := (h0.foot_in (b := B + 1) (.inl rfl)).2; omega
  refine ⟨h2.same (fun b hb => (setRow_other _ _ _ _ (fun e => hf (by rw [← e]; exact hb))).trans (Below.heap_alloc _ _ _ (h2.foot_in hb).2)), setRow_heap _ _ _ _ _ (0, 0) (heap_alloc_new w2 _), RefIs.start _, (fun j hj g hg => by cases hg), (fun g hg => by cases hg), hB, ?_⟩
  exact Below.setRow ((b0.trans (b2.mono hB1)).alloc hB _) hB (by simp; omega) _
section
variable {w W W' : World} {B X g : Nat} {y y' : Lay} {σ ρ : SSt} {vs : Nat → Value} {lv : Value} {cs : Array Value}
theorem Mid.actT (h : Mid w W B X y σ ρ vs lv) (hA : W.heap[g]? = some (.cells cs 42 (0, 0))) (t : Turned W W' B (B + 1) y y') : W'.heap[g]? = some (.cells cs 42 (0, 0)) :=
  (t.far g (lt_of_heap hA) (not_foot h.sc (tag_cells hA) (by decide) (by decide) (by decide) (by decide))).trans hA
theorem Mid.actX (h : Mid w W B X y σ ρ vs lv) (hA : W.heap[g]? = some (.cells cs 42 (0, 0))) : g ≠ X := ne_tag (tag_cells hA) (tag_cells h.box) (by decide)
end
/-- What stands behind the switch. -/
def PCut (w wx : World) (B X A6 n : Nat) (c k : Int) (t : Nm) : Prop :=
  ∃ y σ vs lv, GoodS σ n ∧ Mid w wx B X y σ σ vs lv ∧ wx.heap[A6]? = some (.cells #[.int .i64 c, .int .i64 k, .string ⟨t.toArray⟩] 42 (0, 0))
/-- What stands at the loop's head. -/
def PInv (w wr : World) (B X k : Nat) : Prop := ∃ y σ vs lv, GoodS σ k ∧ Mid w wr B X y σ σ vs lv

set_option maxHeartbeats 1000000 in
set_option maxRecDepth 100000 in
theorem plays_walk (A : Option Addr) (c : Nat) (l : List ActV) (w : World) (hr : RdA w w.heap.size A l) (hl : l.length ≤ 9223372036854775807) (hw : ∀ a ∈ l, (Lit.int .i64 a.c).wf = true ∧ (Lit.int .i64 a.k).wf = true) :
    Calls Try.prog 5 #[.slice A l.length c] w fun e w' => e = .returned (.bool true) ∧ Below w.heap.size w w' := by
  have HW := Lib.hid hw
  clear hw
  obtain ⟨B, hB⟩ : ∃ B, w.heap.size = B := ⟨_, rfl⟩
  have C0 : Hid (Calls Try.prog 8 #[] w fun e w' => e = .returned (.pointer (some ⟨B + 1, 0, none⟩)) ∧ NewAt w w' B 9) := by have := new_any w; rw [hB] at this; exact this
  have CF := Lib.hid (few_any l A c w hr hl)
  rw [hB] at hr ⊢
  have HB := Lib.hid hB
  clear hB
  go_enter Try.func5, Try.ntmps5
  go_wp2_with fail
  refine CF.out.mono ?_
  rintro e w1 ⟨⟨b, rfl, hb⟩, rfl⟩
  clear CF
  cases b with
  | false =>
    clear hb
    go_wp2_with (go_at_call 7; refine (alive_any _).mono ?_; rintro e w3 ⟨rfl, hb3⟩)
    go_ret
    exact ⟨rfl, HB.out ▸ hb3⟩
  | true =>
    have hf := hb rfl
    have HF := Lib.hid hf
    clear hb hf HB
    go_wp2_with fail
    refine C0.out.mono ?_
    rintro e w1 ⟨rfl, hN⟩
    obtain ⟨y0, h0⟩ : ∃ y0, ScopeAt w1 B (B + 1) y0 ⟨fun _ => [], []⟩ := ⟨_, hN.scope⟩
    have b0 := hN.bel
    clear hN C0
    go_wp2_with fail
    refine (rnew_any w1).mono ?_
    rintro e w2 ⟨rfl, b2⟩
    have hM := Mid.start h0 b0 b2
    have hone := refCells_one w2 (fun _ => .slice none 0 0) (.slice none 0 0) _ (RefIs.start w2)
    go_wp2_with (refine wpList_store_row rfl 39 (.tmp 4) (.tmp 26) rfl w2.heap.size (refCells (fun _ => .slice none 0 0) (.slice none 0 0)) rfl rfl 39 _ (heap_alloc_new w2 _) info_rscope rfl hone ?_; generalize World.setRow (w2.alloc (.cells #[.slice none 0 0, .slice none 0 0, .slice none 0 0, .slice none 0 0, .slice none 0 0, .slice none 0 0, .slice none 0 0, .slice none 0 0, .slice none 0 0, .slice none 0 0] 39)) w2.heap.size (refCells (fun _ => .slice none 0 0) (.slice none 0 0)) = W3 at hM ⊢)
    clear h0 b0 b2 hone
    generalize w2.heap.size = X at hM ⊢
    have hP : PInv w W3 B X 0 := ⟨_, _, _, _, GoodS.start, hM⟩
    clear hM
    go_loopg [5] l.length (fun gk iv wr => ∃ k : Nat, gk = l.length - k ∧ k ≤ l.length ∧ iv = .int .i64 k ∧ PInv w wr B X k)
    case atStart => exact ⟨0, by omega, by omega, rfl, hP⟩
    case round =>
      clear hP
      obtain ⟨k, rfl, hk, rfl, hI⟩ := hrel
      by_cases hkl : k < l.length
      · obtain ⟨ad, rfl, hblk, x1, x2, x3⟩ := hr.at_ hkl
        have k0 : (0 : Int) ≤ (k : Int) := Int.natCast_nonneg _
        have k1 : (k : Int) < (l.length : Int) := by omega
        obtain ⟨y, σ, vs, lv, hG, hM⟩ := hI
        have xb : ∀ j, wr.cell? ⟨(ad.add (k * 3)).block, j, (ad.add (k * 3)).spot⟩ = w.cell? ⟨(ad.add (k * 3)).block, j, (ad.add (k * 3)).spot⟩ := fun j => hM.bel.cell (p := ⟨(ad.add (k * 3)).block, j, _⟩) (by rw [block_of_add]; exact hblk)
        have z1 := (hM.bel.cell (p := ad.add (k * 3)) (by rw [block_of_add]; exact hblk)).trans x1
        have z2 := (hM.bel.cell (p := ⟨(ad.add (k * 3)).block, (ad.add (k * 3)).off + 1, none⟩) (by rw [block_of_add]; exact hblk)).trans x2
        have z3 := (hM.bel.cell (p := ⟨(ad.add (k * 3)).block, (ad.add (k * 3)).off + 2, none⟩) (by rw [block_of_add]; exact hblk)).trans x3
        have hwf := HW.out l[k] (List.getElem_mem _)
        have h80 : l.length ≤ 80 := by have := HF.out; simp [fewL] at this; exact this.2
        have h40 : l[k].t.length ≤ 40 := by have := HF.out; simp [fewL] at this; exact this.1 l[k] (List.getElem_mem _)
        obtain ⟨⟨pc, pk, pt⟩, hp⟩ : ∃ p, l[k] = p := ⟨_, rfl⟩
        rw [hp] at z1 z2 z3 hwf h40
        dsimp only at z1 z2 z3 hwf h40
        clear xb x1 x2 x3 hp
        go_upto_block 2 with fail
        have hM1 := hM.below ((Below.refl _ _).alloc (Nat.le_refl _) (.cells #[.int .i64 pc, .int .i64 pk, .string ⟨pt.toArray⟩] 42))
        have hA1 := heap_alloc_new wr (.cells #[.int .i64 pc, .int .i64 pk, .string ⟨pt.toArray⟩] 42)
        clear z1 z2 z3 hM
        generalize wr.alloc (.cells #[.int .i64 pc, .int .i64 pk, .string ⟨pt.toArray⟩] 42) = W1 at hM1 hA1 ⊢
        generalize wr.heap.size = A6 at hA1 ⊢
        have d1 : W1.cell? ⟨A6, 1, none⟩ = some (.int .i64 pk) := (cell_of_row W1 A6 1 _ _ _ hA1).trans rfl
        have d2 : W1.cell? ⟨A6, 2, none⟩ = some (.string ⟨pt.toArray⟩) := (cell_of_row W1 A6 2 _ _ _ hA1).trans rfl
        go_cut [7, 8, 9, 10, 11, 12, 13, 14, 15, 16, 17, 18, 19, 20] from 27 to 171 (fun s7 s8 s9 s10 s11 s12 s13 s14 s15 s16 s17 s18 s19 s20 wx => s7 = .bool true ∧ PCut w wx B X A6 (k + 1) pc pk pt)
        case first =>
          have HG := Lib.hid hG
          have HM := Lib.hid hM1
          have HA := Lib.hid hA1
          clear hG hM1 hA1
          by_cases h1 : pc = 1
          · subst h1
            obtain ⟨a, e, σ', hG', hp, hq⟩ := add_ways vs lv HM.out.sc HG.out (by omega) pk hwf.2 pt h40
            have HP := Lib.hid hp
            have HQ := Lib.hid hq
            clear hp hq
            have HG' := Lib.hid hG'
            clear hG'
            go_wp2_with (first
              | (go_at_call 9; refine HP.out.mono ?_; rintro e3 w3 ⟨rfl, y3, h3, t3⟩; have hM3 := HM.out.turned h3 t3; have hA3 := HM.out.actT HA.out t3; have c1 : w3.cell? ⟨A6, 1, none⟩ = some (.int .i64 pk) := (cell_of_row w3 A6 1 _ _ _ hA3).trans rfl; have c2 : w3.cell? ⟨A6, 2, none⟩ = some (.string ⟨pt.toArray⟩) := (cell_of_row w3 A6 2 _ _ _ hA3).trans rfl; have hX3 := hM3.box)
              | (go_at_call 18; refine (HQ.out _ hM3.ref).mono ?_; rintro e4 w4 ⟨vs4, lv4, rfl, r4, b4, n4, nl4⟩; have hone := refCells_one w4 vs4 lv4 _ r4; have hX4 := (hM3.below b4).box)
              | (refine wpList_load_row rfl 39 (.tmp 4) rfl X rfl 39 (refCells vs lv) (0, 0) _ hX3 Try.underlying39 rfl info_rscope ?_)
              | (refine wpList_store_row rfl 39 (.tmp 10) (.tmp 57) rfl w4.heap.size (refCells vs4 lv4) rfl rfl 39 _ (heap_alloc_new w4 _) info_rscope rfl hone ?_; have hX5 := setRow_heap _ w4.heap.size _ (refCells vs4 lv4) 39 (0, 0) (heap_alloc_new w4 (.cells #[.slice none 0 0, .slice none 0 0, .slice none 0 0, .slice none 0 0, .slice none 0 0, .slice none 0 0, .slice none 0 0, .slice none 0 0, .slice none 0 0, .slice none 0 0] 39)); have b5 : Below w4.heap.size w4 (World.setRow (w4.alloc (.cells #[.slice none 0 0, .slice none 0 0, .slice none 0 0, .slice none 0 0, .slice none 0 0, .slice none 0 0, .slice none 0 0, .slice none 0 0, .slice none 0 0, .slice none 0 0] 39)) w4.heap.size (refCells vs4 lv4)) := Below.setRow ((Below.refl _ _).alloc (Nat.le_refl _) _) (Nat.le_refl _) (by simp) _; generalize World.setRow (w4.alloc (.cells #[.slice none 0 0, .slice none 0 0, .slice none 0 0, .slice none 0 0, .slice none 0 0, .slice none 0 0, .slice none 0 0, .slice none 0 0, .slice none 0 0, .slice none 0 0] 39)) w4.heap.size (refCells vs4 lv4) = w5 at hX5 b5 ⊢; have b35 := b4.trans (b5.mono b4.size); have hX6 := (hM3.below b35).box)
              | (refine wpList_load_row rfl 39 (.tmp 10) rfl w4.heap.size rfl 39 (refCells vs4 lv4) (0, 0) _ hX5 Try.underlying39 rfl info_rscope ?_)
              | (refine wpList_store_row rfl 39 (.tmp 4) (.tmp 60) rfl X (refCells vs4 lv4) rfl rfl 39 _ hX6 info_rscope rfl hone ?_))
            go_meet
            exact ⟨rfl, y3, σ', vs4, lv4, HG'.out, hM3.stored b35 (r4.below b5) (fun j => (n4 j).later b5.size) (nl4.later b5.size), (setRow_other _ _ _ _ (hM3.actX hA3)).trans ((b35.block A6 (lt_of_heap hA3)).trans hA3)⟩
          have n1 : (pc == 1) = false := by simpa using h1
          by_cases h2 : pc = 2
          · subst h2
            obtain ⟨a, e, hp, hq⟩ := find_ways vs lv HM.out.sc HG.out (by omega) pk hwf.2 pt h40
            have HP := Lib.hid hp
            have HQ := Lib.hid hq
            clear hp hq
            go_wp2_with (first
              | (go_at_call 14; refine HP.out.mono ?_; rintro e3 w3 ⟨rfl, y3, h3, t3⟩; have hM3 := HM.out.turned h3 t3; have hA3 := HM.out.actT HA.out t3; have c1 : w3.cell? ⟨A6, 1, none⟩ = some (.int .i64 pk) := (cell_of_row w3 A6 1 _ _ _ hA3).trans rfl; have c2 : w3.cell? ⟨A6, 2, none⟩ = some (.string ⟨pt.toArray⟩) := (cell_of_row w3 A6 2 _ _ _ hA3).trans rfl; have hX3 := hM3.box)
              | (go_at_call 19; refine (HQ.out _ hM3.ref).mono ?_; rintro e4 w4 ⟨rfl, b4⟩)
              | (refine wpList_load_row rfl 39 (.tmp 4) rfl X rfl 39 (refCells vs lv) (0, 0) _ hX3 Try.underlying39 rfl info_rscope ?_))
            go_meet
            exact ⟨rfl, y3, σ, vs, lv, HG.out.more, hM3.below b4, (b4.block A6 (lt_of_heap hA3)).trans hA3⟩
          have n2 : (pc == 2) = false := by simpa using h2
          by_cases h3 : pc = 3
          · subst h3
            obtain ⟨σ', hG', hp, hq⟩ := push_ways vs lv HM.out.sc HG.out (by omega) pt
            have HP := Lib.hid hp
            have HQ := Lib.hid hq
            clear hp hq
            have HG' := Lib.hid hG'
            clear hG'
            go_wp2_with (first
              | (go_at_call 10; refine HP.out.mono ?_; rintro e3 w3 ⟨rfl, y3, h3, t3⟩; have hM3 := HM.out.turned h3 t3; have hA3 := HM.out.actT HA.out t3; have c1 : w3.cell? ⟨A6, 1, none⟩ = some (.int .i64 pk) := (cell_of_row w3 A6 1 _ _ _ hA3).trans rfl; have c2 : w3.cell? ⟨A6, 2, none⟩ = some (.string ⟨pt.toArray⟩) := (cell_of_row w3 A6 2 _ _ _ hA3).trans rfl; have hX3 := hM3.box)
              | (go_at_call 20; refine (HQ.out _ hM3.ref).mono ?_; rintro e4 w4 ⟨vs4, lv4, rfl, r4, b4, n4, nl4⟩; have hone := refCells_one w4 vs4 lv4 _ r4; have hX4 := (hM3.below b4).box)
              | (refine wpList_load_row rfl 39 (.tmp 4) rfl X rfl 39 (refCells vs lv) (0, 0) _ hX3 Try.underlying39 rfl info_rscope ?_)
              | (refine wpList_store_row rfl 39 (.tmp 4) (.tmp 106) rfl X (refCells vs4 lv4) rfl rfl 39 _ hX4 info_rscope rfl hone ?_))
            go_meet
            exact ⟨rfl, y3, σ', vs4, lv4, HG'.out, hM3.stored b4 r4 n4 nl4, (setRow_other _ _ _ _ (hM3.actX hA3)).trans ((b4.block A6 (lt_of_heap hA3)).trans hA3)⟩
          have n3 : (pc == 3) = false := by simpa using h3
          by_cases h4 : pc = 4
          · subst h4
            obtain ⟨σ', hG', hp, hq⟩ := pop_ways vs lv HM.out.sc HG.out (by omega)
            have HP := Lib.hid hp
            have HQ := Lib.hid hq
            clear hp hq
            have HG' := Lib.hid hG'
            clear hG'
            go_wp2_with (first
              | (go_at_call 11; refine HP.out.mono ?_; rintro e3 w3 ⟨rfl, y3, h3, t3⟩; have hM3 := HM.out.turned h3 t3; have hA3 := HM.out.actT HA.out t3; have c1 : w3.cell? ⟨A6, 1, none⟩ = some (.int .i64 pk) := (cell_of_row w3 A6 1 _ _ _ hA3).trans rfl; have c2 : w3.cell? ⟨A6, 2, none⟩ = some (.string ⟨pt.toArray⟩) := (cell_of_row w3 A6 2 _ _ _ hA3).trans rfl; have hX3 := hM3.box)
              | (go_at_call 21; refine (HQ.out _ hM3.ref).mono ?_; rintro e4 w4 ⟨vs4, lv4, rfl, r4, b4, n4, nl4⟩; have hone := refCells_one w4 vs4 lv4 _ r4; have hX4 := (hM3.below b4).box)
              | (refine wpList_load_row rfl 39 (.tmp 4) rfl X rfl 39 (refCells vs lv) (0, 0) _ hX3 Try.underlying39 rfl info_rscope ?_)
              | (refine wpList_store_row rfl 39 (.tmp 4) (.tmp 112) rfl X (refCells vs4 lv4) rfl rfl 39 _ hX4 info_rscope rfl hone ?_))
            go_meet
            exact ⟨rfl, y3, σ', vs4, lv4, HG'.out, hM3.stored b4 r4 n4 nl4, (setRow_other _ _ _ _ (hM3.actX hA3)).trans ((b4.block A6 (lt_of_heap hA3)).trans hA3)⟩
          have n4 : (pc == 4) = false := by simpa using h4
          by_cases h5 : pc = 5
          · subst h5
            obtain ⟨a, e, hp, hq⟩ := label_ways vs lv HM.out.sc HG.out (by omega) pt h40
            have HP := Lib.hid hp
            have HQ := Lib.hid hq
            clear hp hq
            go_wp2_with (first
              | (go_at_call 12; refine HP.out.mono ?_; rintro e3 w3 ⟨rfl, y3, h3, t3⟩; have hM3 := HM.out.turned h3 t3; have hA3 := HM.out.actT HA.out t3; have c1 : w3.cell? ⟨A6, 1, none⟩ = some (.int .i64 pk) := (cell_of_row w3 A6 1 _ _ _ hA3).trans rfl; have c2 : w3.cell? ⟨A6, 2, none⟩ = some (.string ⟨pt.toArray⟩) := (cell_of_row w3 A6 2 _ _ _ hA3).trans rfl; have hX3 := hM3.box)
              | (go_at_call 22; refine (HQ.out _ hM3.ref).mono ?_; rintro e4 w4 ⟨rfl, b4⟩)
              | (refine wpList_load_row rfl 39 (.tmp 4) rfl X rfl 39 (refCells vs lv) (0, 0) _ hX3 Try.underlying39 rfl info_rscope ?_))
            go_meet
            exact ⟨rfl, y3, σ, vs, lv, HG.out.more, hM3.below b4, (b4.block A6 (lt_of_heap hA3)).trans hA3⟩
          have n5 : (pc == 5) = false := by simpa using h5
          by_cases h6 : pc = 6
          · subst h6
            obtain ⟨σ', hG', hp, hq⟩ := reset_ways vs lv HM.out.sc HG.out pk hwf.2
            have HP := Lib.hid hp
            have HQ := Lib.hid hq
            clear hp hq
            have HG' := Lib.hid hG'
            clear hG'
            go_wp2_with (first
              | (go_at_call 23; refine HP.out.mono ?_; rintro e3 w3 ⟨rfl, y3, h3, t3⟩; have hM3 := HM.out.turned h3 t3; have hA3 := HM.out.actT HA.out t3; have c1 : w3.cell? ⟨A6, 1, none⟩ = some (.int .i64 pk) := (cell_of_row w3 A6 1 _ _ _ hA3).trans rfl; have c2 : w3.cell? ⟨A6, 2, none⟩ = some (.string ⟨pt.toArray⟩) := (cell_of_row w3 A6 2 _ _ _ hA3).trans rfl; have hX3 := hM3.box)
              | (go_at_call 24; refine (HQ.out _ hM3.ref).mono ?_; rintro e4 w4 ⟨vs4, lv4, rfl, r4, b4, n4, nl4⟩; have hone := refCells_one w4 vs4 lv4 _ r4; have hX4 := (hM3.below b4).box)
              | (refine wpList_load_row rfl 39 (.tmp 4) rfl X rfl 39 (refCells vs lv) (0, 0) _ hX3 Try.underlying39 rfl info_rscope ?_)
              | (refine wpList_store_row rfl 39 (.tmp 4) (.tmp 146) rfl X (refCells vs4 lv4) rfl rfl 39 _ hX4 info_rscope rfl hone ?_))
            go_meet
            exact ⟨rfl, y3, σ', vs4, lv4, HG'.out, hM3.stored b4 r4 n4 nl4, (setRow_other _ _ _ _ (hM3.actX hA3)).trans ((b4.block A6 (lt_of_heap hA3)).trans hA3)⟩
          have n6 : (pc == 6) = false := by simpa using h6
          go_wp2_with fail
          go_meet
          exact ⟨rfl, y, σ, vs, lv, HG.out.more, HM.out, HA.out⟩
        case rest =>
          obtain ⟨rfl, y2, σ2, vs2, lv2, hG2, hM2, hA2⟩ := hcut
          have hMd := hM2.below (Below.refl _ _).drew
          have hX : (wc.drew).heap[X]? = some (.cells (refCells vs2 lv2) 39 (0, 0)) := hM2.box
          have hA : (wc.drew).heap[A6]? = some (.cells #[.int .i64 pc, .int .i64 pk, .string ⟨pt.toArray⟩] 42 (0, 0)) := hA2
          have hS0 : (wc.drew).cell? ⟨A6, 1, none⟩ = some (.int .i64 pk) ∧ (wc.drew).heap[X]? = some (.cells (refCells vs2 lv2) 39 (0, 0)) := ⟨(cell_of_row _ A6 1 _ _ _ hA).trans rfl, hX⟩
          have HG := Lib.hid hG2
          have HM := Lib.hid hMd
          have HA := Lib.hid hA
          have hlt := lt_of_heap hA
          have hll := namesF_len hG2 pk
          clear hG2 hMd hA hM2 hA2 hX
          go_wp2_with fail
          refine wp_region_held_drew (S := fun w' => w'.cell? ⟨A6, 1, none⟩ = some (.int .i64 pk) ∧ w'.heap[X]? = some (.cells (refCells vs2 lv2) 39 (0, 0))) (by kernel_rfl) ?_ (fun hHeld0 => ?_)
          · first | assumption | go_keep
          refine wpAnyH_take (i := 0) (oi := { dst := some 147, op := Go.Op.move (Go.Operand.tmp 7), type := 4, pos := "law.go:77", after := #[], guard := none }) (v := ?v_1_0) rfl (by kernel_rfl) (by kernel_rfl) (by kernel_rfl) (fun _ _ _ h => h) (Or.inl ⟨by rfl, ?hy_1_0⟩) (by assumption) ?rest_1_0
          case hy_1_0 => (intro w hSw; (try dsimp only at hSw); go_simp; (try (with_reducible rfl)))
          (try simp only [Act.put, List.setIfInBounds_toArray, List.set_cons_succ, List.set_cons_zero])
          refine wpAnyH_take (i := 1) (oi := { dst := some 148, op := Go.Op.unOp Go.UnOp.not 4 (Go.Operand.tmp 147), type := 4, pos := "law.go:77", after := #[{ on := 0, ground := Go.Ground.data }], guard := none }) (v := ?v_1_1) rfl (by kernel_rfl) (by kernel_rfl) (by kernel_rfl) (fun _ _ _ h => h) (Or.inl ⟨by rfl, ?hy_1_1⟩) (by assumption) ?rest_1_1
          case hy_1_1 => (intro w hSw; (try dsimp only at hSw); go_simp; (try (with_reducible rfl)))
          (try simp only [Act.put, List.setIfInBounds_toArray, List.set_cons_succ, List.set_cons_zero])
          refine wpAnyH_take (i := 2) (oi := { dst := some 149, op := Go.Op.move (Go.Operand.tmp 148), type := 4, pos := "law.go:77", after := #[{ on := 1, ground := Go.Ground.data }], guard := none }) (v := ?v_1_2) rfl (by kernel_rfl) (by kernel_rfl) (by kernel_rfl) (fun _ _ _ h => h) (Or.inl ⟨by rfl, ?hy_1_2⟩) (by assumption) ?rest_1_2
          case hy_1_2 => (intro w hSw; (try dsimp only at hSw); go_simp; (try (with_reducible rfl)))
          (try simp only [Act.put, List.setIfInBounds_toArray, List.set_cons_succ, List.set_cons_zero])
          refine wpAnyH_take (i := 3) (oi := { dst := some 150, op := Go.Op.move (Go.Operand.tmp 3), type := 24, pos := "law.go:77", after := #[{ on := 2, ground := Go.Ground.guard }], guard := some (2, false) }) (v := ?v_1_3) rfl (by kernel_rfl) (by kernel_rfl) (by kernel_rfl) (fun _ _ _ h => h) (Or.inl ⟨by rfl, ?hy_1_3⟩) (by assumption) ?rest_1_3
          case hy_1_3 => (intro w hSw; (try dsimp only at hSw); go_simp; (try (with_reducible rfl)))
          (try simp only [Act.put, List.setIfInBounds_toArray, List.set_cons_succ, List.set_cons_zero])
          refine wpAnyH_take (i := 4) (oi := { dst := some 151, op := Go.Op.fieldAddr 42 (Go.Operand.tmp 6) 1, type := 0, pos := "law.go:77", after := #[{ on := 2, ground := Go.Ground.guard }], guard := some (2, false) }) (v := ?v_1_4) rfl (by kernel_rfl) (by kernel_rfl) (by kernel_rfl) (fun _ _ _ h => h) (Or.inl ⟨by rfl, ?hy_1_4⟩) (by assumption) ?rest_1_4
          case hy_1_4 => (intro w hSw; (try dsimp only at hSw); go_simp; (try (with_reducible rfl)))
          (try simp only [Act.put, List.setIfInBounds_toArray, List.set_cons_succ, List.set_cons_zero])
          refine wpAnyH_take (i := 5) (oi := { dst := some 152, op := Go.Op.load 3 (Go.Operand.tmp 151), type := 3, pos := "law.go:77", after := #[{ on := 4, ground := Go.Ground.data }, { on := 2, ground := Go.Ground.guard }], guard := some (2, false) }) (v := ?v_1_5) rfl (by kernel_rfl) (by kernel_rfl) (by kernel_rfl) (fun _ _ _ h => h) (Or.inl ⟨by rfl, ?hy_1_5⟩) (by assumption) ?rest_1_5
          case hy_1_5 => (intro w hSw; (try dsimp only at hSw); go_simp; (try (with_reducible rfl)))
          (try simp only [Act.put, List.setIfInBounds_toArray, List.set_cons_succ, List.set_cons_zero])
          refine wpAnyH_take (i := 7) (oi := { dst := some 154, op := Go.Op.load 39 (Go.Operand.tmp 4), type := 39, pos := "law.go:77", after := #[{ on := 2, ground := Go.Ground.guard }], guard := some (2, false) }) (v := .agg (refCells vs2 lv2)) rfl (by kernel_rfl) (by kernel_rfl) (by kernel_rfl) (fun _ _ _ h => h) (Or.inl ⟨by rfl, ?hy_1_7⟩) (by assumption) ?rest_1_7
          case hy_1_7 => (intro w hSw; exact exec_load_row 39 (.tmp 4) (by rfl) X (by rfl) w 39 (refCells vs2 lv2) (0, 0) _ hSw.2 Try.underlying39 rfl info_rscope)
          (try simp only [Act.put, List.setIfInBounds_toArray, List.set_cons_succ, List.set_cons_zero])
          refine wpAnyH_take (i := 8) (oi := { dst := some 155, op := Go.Op.fieldAddr 42 (Go.Operand.tmp 6) 1, type := 0, pos := "law.go:77", after := #[{ on := 2, ground := Go.Ground.guard }], guard := some (2, false) }) (v := ?v_1_8) rfl (by kernel_rfl) (by kernel_rfl) (by kernel_rfl) (fun _ _ _ h => h) (Or.inl ⟨by rfl, ?hy_1_8⟩) (by assumption) ?rest_1_8
          case hy_1_8 => (intro w hSw; (try dsimp only at hSw); go_simp; (try (with_reducible rfl)))
          (try simp only [Act.put, List.setIfInBounds_toArray, List.set_cons_succ, List.set_cons_zero])
          refine wpAnyH_take (i := 9) (oi := { dst := some 156, op := Go.Op.load 3 (Go.Operand.tmp 155), type := 3, pos := "law.go:77", after := #[{ on := 8, ground := Go.Ground.data }, { on := 2, ground := Go.Ground.guard }], guard := some (2, false) }) (v := ?v_1_9) rfl (by kernel_rfl) (by kernel_rfl) (by kernel_rfl) (fun _ _ _ h => h) (Or.inl ⟨by rfl, ?hy_1_9⟩) (by assumption) ?rest_1_9
          case hy_1_9 => (intro w hSw; (try dsimp only at hSw); go_simp; (try (with_reducible rfl)))
          (try simp only [Act.put, List.setIfInBounds_toArray, List.set_cons_succ, List.set_cons_zero])
          refine wpAnyH_ready (rs := [6]) (by kernel_rfl) (by simp) ?_
          refine AllReadyH.cons (o := { dst := some 153, op := Go.Op.call { callee := Go.Callee.value (Go.Operand.func 13), args := #[Go.Operand.tmp 150, Go.Operand.tmp 152], argTypes := #[24, 3] }, type := 3, pos := "law.go:77", after := #[{ on := 3, ground := Go.Ground.data }, { on := 5, ground := Go.Ground.data }, { on := 2, ground := Go.Ground.chain }, { on := 2, ground := Go.Ground.guard }], guard := some (2, false) }) rfl (fun K hK => ?_) AllReadyH.nil
          go_simp
          (go_at_call 13; refine (slen_any HM.out.sc pk hwf.2).mono ?_; rintro e1 v1 ⟨rfl, rfl⟩)
          (try dsimp only)
          refine hK.out _ _ ?_ (fun hHeld1 => ?_)
          · (try dsimp only); first | assumption | trivial | go_keep
          clear hK K hHeld0
          (try simp only [Act.put, List.setIfInBounds_toArray, List.set_cons_succ, List.set_cons_zero])
          refine wpAnyH_ready (rs := [10]) (by kernel_rfl) (by simp) ?_
          refine AllReadyH.cons (o := { dst := some 157, op := Go.Op.call { callee := Go.Callee.value (Go.Operand.func 25), args := #[Go.Operand.tmp 154, Go.Operand.tmp 156], argTypes := #[39, 3] }, type := 3, pos := "law.go:77", after := #[{ on := 7, ground := Go.Ground.data }, { on := 9, ground := Go.Ground.data }, { on := 6, ground := Go.Ground.chain }, { on := 2, ground := Go.Ground.guard }], guard := some (2, false) }) rfl (fun K hK => ?_) AllReadyH.nil
          go_simp
          (go_at_call 25; refine (rlen_any HM.out.ref pk).mono ?_; rintro e2 v2 ⟨rfl, b2⟩; have hA0 := HA.out; have M2 := HM.out.below b2; have hA2 := (b2.block A6 (by first | exact hlt | omega)).trans hA0; have hS2 : v2.cell? ⟨A6, 1, none⟩ = some (.int .i64 pk) ∧ v2.heap[X]? = some (.cells (refCells vs2 lv2) 39 (0, 0)) := ⟨(cell_of_row _ A6 1 _ _ _ hA2).trans rfl, M2.box⟩; clear hS0; obtain ⟨s2, x2⟩ := id hS2)
          (try dsimp only)
          refine hK.out _ _ ?_ (fun hHeld2 => ?_)
          · (try dsimp only); first | assumption | trivial | go_keep
          clear hK K hHeld1
          (try simp only [Act.put, List.setIfInBounds_toArray, List.set_cons_succ, List.set_cons_zero])
          refine wpAnyH_take (i := 11) (oi := { dst := some 158, op := Go.Op.binOp Go.BinOp.neq 3 (Go.Operand.tmp 153) (Go.Operand.tmp 157) 3, type := 4, pos := "law.go:77", after := #[{ on := 6, ground := Go.Ground.data }, { on := 10, ground := Go.Ground.data }, { on := 2, ground := Go.Ground.guard }], guard := some (2, false) }) (v := ?v_1_11) rfl (by kernel_rfl) (by kernel_rfl) (by kernel_rfl) (fun _ _ _ h => h) (Or.inl ⟨by rfl, ?hy_1_11⟩) (by assumption) ?rest_1_11
          case hy_1_11 => (intro w hSw; (try dsimp only at hSw); go_simp; (try (with_reducible rfl)))
          (try simp only [Act.put, List.setIfInBounds_toArray, List.set_cons_succ, List.set_cons_zero])
          refine wpAnyH_take (i := 12) (oi := { dst := some 159, op := Go.Op.pick (Go.Operand.tmp 149) (Go.Operand.const (Go.Value.bool true)) (Go.Operand.tmp 158), type := 4, pos := "law.go:77", after := #[{ on := 2, ground := Go.Ground.data }, { on := 11, ground := Go.Ground.data }], guard := none }) (v := ?v_1_12) rfl (by kernel_rfl) (by kernel_rfl) (by kernel_rfl) (fun _ _ _ h => h) (Or.inl ⟨by rfl, ?hy_1_12⟩) (by assumption) ?rest_1_12
          case hy_1_12 => (intro w hSw; (try dsimp only at hSw); go_simp; (try (with_reducible rfl)))
          (try simp only [Act.put, List.setIfInBounds_toArray, List.set_cons_succ, List.set_cons_zero])
          refine wpAnyH_take (i := 13) (oi := { dst := some 160, op := Go.Op.move (Go.Operand.tmp 159), type := 4, pos := "law.go:77", after := #[{ on := 12, ground := Go.Ground.data }, { on := 10, ground := Go.Ground.chain }], guard := none }) (v := ?v_1_13) rfl (by kernel_rfl) (by kernel_rfl) (by kernel_rfl) (fun _ _ _ h => h) (Or.inl ⟨by rfl, ?hy_1_13⟩) (by assumption) ?rest_1_13
          case hy_1_13 => (intro w hSw; (try dsimp only at hSw); go_simp; (try (with_reducible rfl)))
          (try simp only [Act.put, List.setIfInBounds_toArray, List.set_cons_succ, List.set_cons_zero])
          refine wpAnyH_take (i := 14) (oi := { dst := some 161, op := Go.Op.move (Go.Operand.tmp 3), type := 24, pos := "law.go:77", after := #[{ on := 13, ground := Go.Ground.guard }], guard := some (13, false) }) (v := ?v_1_14) rfl (by kernel_rfl) (by kernel_rfl) (by kernel_rfl) (fun _ _ _ h => h) (Or.inl ⟨by rfl, ?hy_1_14⟩) (by assumption) ?rest_1_14
          case hy_1_14 => (intro w hSw; (try dsimp only at hSw); go_simp; (try (with_reducible rfl)))
          (try simp only [Act.put, List.setIfInBounds_toArray, List.set_cons_succ, List.set_cons_zero])
          refine wpAnyH_take (i := 15) (oi := { dst := some 162, op := Go.Op.fieldAddr 42 (Go.Operand.tmp 6) 1, type := 0, pos := "law.go:77", after := #[{ on := 13, ground := Go.Ground.guard }], guard := some (13, false) }) (v := ?v_1_15) rfl (by kernel_rfl) (by kernel_rfl) (by kernel_rfl) (fun _ _ _ h => h) (Or.inl ⟨by rfl, ?hy_1_15⟩) (by assumption) ?rest_1_15
          case hy_1_15 => (intro w hSw; (try dsimp only at hSw); go_simp; (try (with_reducible rfl)))
          (try simp only [Act.put, List.setIfInBounds_toArray, List.set_cons_succ, List.set_cons_zero])
          refine wpAnyH_take (i := 16) (oi := { dst := some 163, op := Go.Op.load 3 (Go.Operand.tmp 162), type := 3, pos := "law.go:77", after := #[{ on := 15, ground := Go.Ground.data }, { on := 13, ground := Go.Ground.guard }], guard := some (13, false) }) (v := ?v_1_16) rfl (by kernel_rfl) (by kernel_rfl) (by kernel_rfl) (fun _ _ _ h => h) (Or.inl ⟨by rfl, ?hy_1_16⟩) (by assumption) ?rest_1_16
          case hy_1_16 => (intro w hSw; (try dsimp only at hSw); go_simp; (try (with_reducible rfl)))
          (try simp only [Act.put, List.setIfInBounds_toArray, List.set_cons_succ, List.set_cons_zero])
          refine wpAnyH_take (i := 18) (oi := { dst := some 165, op := Go.Op.load 39 (Go.Operand.tmp 4), type := 39, pos := "law.go:77", after := #[{ on := 13, ground := Go.Ground.guard }], guard := some (13, false) }) (v := .agg (refCells vs2 lv2)) rfl (by kernel_rfl) (by kernel_rfl) (by kernel_rfl) (fun _ _ _ h => h) (Or.inl ⟨by rfl, ?hy_1_18⟩) (by assumption) ?rest_1_18
          case hy_1_18 => (intro w hSw; exact exec_load_row 39 (.tmp 4) (by rfl) X (by rfl) w 39 (refCells vs2 lv2) (0, 0) _ hSw.2 Try.underlying39 rfl info_rscope)
          (try simp only [Act.put, List.setIfInBounds_toArray, List.set_cons_succ, List.set_cons_zero])
          refine wpAnyH_take (i := 19) (oi := { dst := some 166, op := Go.Op.fieldAddr 42 (Go.Operand.tmp 6) 1, type := 0, pos := "law.go:77", after := #[{ on := 13, ground := Go.Ground.guard }], guard := some (13, false) }) (v := ?v_1_19) rfl (by kernel_rfl) (by kernel_rfl) (by kernel_rfl) (fun _ _ _ h => h) (Or.inl ⟨by rfl, ?hy_1_19⟩) (by assumption) ?rest_1_19
          case hy_1_19 => (intro w hSw; (try dsimp only at hSw); go_simp; (try (with_reducible rfl)))
          (try simp only [Act.put, List.setIfInBounds_toArray, List.set_cons_succ, List.set_cons_zero])
          refine wpAnyH_take (i := 20) (oi := { dst := some 167, op := Go.Op.load 3 (Go.Operand.tmp 166), type := 3, pos := "law.go:77", after := #[{ on := 19, ground := Go.Ground.data }, { on := 13, ground := Go.Ground.guard }], guard := some (13, false) }) (v := ?v_1_20) rfl (by kernel_rfl) (by kernel_rfl) (by kernel_rfl) (fun _ _ _ h => h) (Or.inl ⟨by rfl, ?hy_1_20⟩) (by assumption) ?rest_1_20
          case hy_1_20 => (intro w hSw; (try dsimp only at hSw); go_simp; (try (with_reducible rfl)))
          (try simp only [Act.put, List.setIfInBounds_toArray, List.set_cons_succ, List.set_cons_zero])
          refine wpAnyH_ready (rs := [17]) (by kernel_rfl) (by simp) ?_
          refine AllReadyH.cons (o := { dst := some 164, op := Go.Op.call { callee := Go.Callee.value (Go.Operand.func 27), args := #[Go.Operand.tmp 161, Go.Operand.tmp 163], argTypes := #[24, 3] }, type := 53, pos := "law.go:77", after := #[{ on := 14, ground := Go.Ground.data }, { on := 16, ground := Go.Ground.data }, { on := 13, ground := Go.Ground.chain }, { on := 13, ground := Go.Ground.guard }], guard := some (13, false) }) rfl (fun K hK => ?_) AllReadyH.nil
          go_simp
          (go_at_call 27; refine (names_all (HM.out.below b2).sc HG.out (by omega) pk hwf.2).mono ?_; rintro e3 v3 ⟨A3, c3, rfl, o3, b3⟩; have M3 := M2.below b3; have hlt2 := lt_of_heap hA2; have hA3 := (b3.block A6 (by first | exact hlt2 | omega)).trans hA2; have hS3 : v3.cell? ⟨A6, 1, none⟩ = some (.int .i64 pk) ∧ v3.heap[X]? = some (.cells (refCells vs2 lv2) 39 (0, 0)) := ⟨(cell_of_row _ A6 1 _ _ _ hA3).trans rfl, M3.box⟩; clear hS2; obtain ⟨s3, x3⟩ := id hS3)
          (try dsimp only)
          refine hK.out _ _ ?_ (fun hHeld3 => ?_)
          · (try dsimp only); first | assumption | trivial | go_keep
          clear hK K hHeld2
          (try simp only [Act.put, List.setIfInBounds_toArray, List.set_cons_succ, List.set_cons_zero])
          refine wpAnyH_ready (rs := [21]) (by kernel_rfl) (by simp) ?_
          refine AllReadyH.cons (o := { dst := some 168, op := Go.Op.call { callee := Go.Callee.value (Go.Operand.func 28), args := #[Go.Operand.tmp 165, Go.Operand.tmp 167], argTypes := #[39, 3] }, type := 53, pos := "law.go:77", after := #[{ on := 18, ground := Go.Ground.data }, { on := 20, ground := Go.Ground.data }, { on := 17, ground := Go.Ground.chain }, { on := 13, ground := Go.Ground.guard }], guard := some (13, false) }) rfl (fun K hK => ?_) AllReadyH.nil
          go_simp
          (go_at_call 28; refine (rnames_all ((HM.out.below b2).below b3).ref HG.out (by omega) pk).mono ?_; rintro e4 v4 ⟨A4, c4, rfl, o4, b4⟩; have M4 := M3.below b4; have hlt3 := lt_of_heap hA3; have hA4 := (b4.block A6 (by first | exact hlt3 | omega)).trans hA3; have hS4 : v4.cell? ⟨A6, 1, none⟩ = some (.int .i64 pk) ∧ v4.heap[X]? = some (.cells (refCells vs2 lv2) 39 (0, 0)) := ⟨(cell_of_row _ A6 1 _ _ _ hA4).trans rfl, M4.box⟩; clear hS3; obtain ⟨s4, x4⟩ := id hS4)
          (try dsimp only)
          refine hK.out _ _ ?_ (fun hHeld4 => ?_)
          · (try dsimp only); first | assumption | trivial | go_keep
          clear hK K hHeld3
          (try simp only [Act.put, List.setIfInBounds_toArray, List.set_cons_succ, List.set_cons_zero])
          refine wpAnyH_ready (rs := [22]) (by kernel_rfl) (by simp) ?_
          refine AllReadyH.cons (o := { dst := some 169, op := Go.Op.call { callee := Go.Callee.value (Go.Operand.func 26), args := #[Go.Operand.tmp 164, Go.Operand.tmp 168], argTypes := #[53, 53] }, type := 4, pos := "law.go:77", after := #[{ on := 17, ground := Go.Ground.data }, { on := 21, ground := Go.Ground.data }, { on := 21, ground := Go.Ground.chain }, { on := 13, ground := Go.Ground.guard }], guard := some (13, false) }) rfl (fun K hK => ?_) AllReadyH.nil
          go_simp
          (go_at_call 26; refine (same_eq (namesF σ2 pk) A3 A4 c3 c4 v4 _ _ (own_same o3 (fun g hg => b4.block g (o3.lt g hg).2)) o4 (by omega)).mono ?_; rintro e5 v5 ⟨rfl, q, rfl⟩; have hS5 : (v4.drewN q).cell? ⟨A6, 1, none⟩ = some (.int .i64 pk) ∧ (v4.drewN q).heap[X]? = some (.cells (refCells vs2 lv2) 39 (0, 0)) := hS4)
          (try dsimp only)
          refine hK.out _ _ ?_ (fun hHeld5 => ?_)
          · (try dsimp only); first | assumption | trivial | go_keep
          clear hK K hHeld4
          (try simp only [Act.put, List.setIfInBounds_toArray, List.set_cons_succ, List.set_cons_zero])
          refine wpAnyH_take (i := 23) (oi := { dst := some 170, op := Go.Op.unOp Go.UnOp.not 4 (Go.Operand.tmp 169), type := 4, pos := "law.go:77", after := #[{ on := 22, ground := Go.Ground.data }, { on := 13, ground := Go.Ground.guard }], guard := some (13, false) }) (v := ?v_1_23) rfl (by kernel_rfl) (by kernel_rfl) (by kernel_rfl) (fun _ _ _ h => h) (Or.inl ⟨by rfl, ?hy_1_23⟩) (by assumption) ?rest_1_23
          case hy_1_23 => (intro w hSw; (try dsimp only at hSw); go_simp; (try (with_reducible rfl)))
          (try simp only [Act.put, List.setIfInBounds_toArray, List.set_cons_succ, List.set_cons_zero])
          refine wpAnyH_take (i := 24) (oi := { dst := some 171, op := Go.Op.pick (Go.Operand.tmp 160) (Go.Operand.const (Go.Value.bool true)) (Go.Operand.tmp 170), type := 4, pos := "law.go:77", after := #[{ on := 13, ground := Go.Ground.data }, { on := 23, ground := Go.Ground.data }], guard := none }) (v := ?v_1_24) rfl (by kernel_rfl) (by kernel_rfl) (by kernel_rfl) (fun _ _ _ h => h) (Or.inl ⟨by rfl, ?hy_1_24⟩) (by assumption) ?rest_1_24
          case hy_1_24 => (intro w hSw; (try dsimp only at hSw); go_simp; (try (with_reducible rfl)))
          (try simp only [Act.put, List.setIfInBounds_toArray, List.set_cons_succ, List.set_cons_zero])
          refine wpAnyH_done (by kernel_rfl) ?_ _
          go_wp2
          go_roundg (l.length - (k + 1))
          case measure => omega
          case rel => exact ⟨k + 1, by omega, by omega, by go_num, y2, σ2, vs2, lv2, HG.out, (((HM.out.below b2).below b3).below b4).below (below_drewN _ _)⟩
      · obtain rfl : k = l.length := by omega
        obtain ⟨y, σ, vs, lv, hG, hM⟩ := hI
        have hsz := hM.size
        have hbel := hM.bel
        have HM := Lib.hid hM
        clear hM hG
        go_wp2_with (go_at_call 7; refine (alive_any _).mono ?_; rintro e w3 ⟨rfl, hb3⟩)
        go_ret
        exact ⟨rfl, hbel.trans (hb3.mono hsz)⟩
end Go.Proofs.Ytbnddnoognoekaa
