/-
  Our opcodes: Name, Known, Find.
-/
import Derived.Test.YtmhmpobjjhbklaaGreatDoorOpOur2
set_option linter.unusedVariables false
set_option linter.unusedSimpArgs false
namespace Go.Proofs.YtmhmpobjjhbklaaGreatDoor
namespace Opc
theorem look_hit {op : Int} {pre a : List (Int × List UInt8)} {x : Int × List UInt8} (h : look op pre = none) (hx : x.1 = op) (hp : pre ++ [x] <+: a) : look op a = some x.2 := by
  obtain ⟨r, rfl⟩ := hp
  rw [look_app, look_app, h, look, if_pos hx]; rfl
theorem look_miss {op : Int} {pre : List (Int × List UInt8)} {x : Int × List UInt8} (h : look op pre = none) (hx : x.1 ≠ op) : look op (pre ++ [x]) = none := by
  rw [look_app, h, look, if_neg hx]; rfl
theorem seek_hit {s : List UInt8} {pre a : List (Int × List UInt8)} {x : Int × List UInt8} (h : seek s pre = none) (hx : x.2 = s) (hp : pre ++ [x] <+: a) : seek s a = some x.1 := by
  obtain ⟨r, rfl⟩ := hp
  rw [seek_app, seek_app, h, seek, if_pos hx]; rfl
theorem seek_miss {s : List UInt8} {pre : List (Int × List UInt8)} {x : Int × List UInt8} (h : seek s pre = none) (hx : x.2 ≠ s) : seek s (pre ++ [x]) = none := by
  rw [seek_app, h, seek, if_neg hx]; rfl
end Opc
open Go.RowKit Go.Shelf
attribute [local go_sem] Oper.semAt_some

theorem cell_new_l (W : World) (v : Value) (t : TypeId) : (W.alloc (.cells #[v] t)).cell? ⟨W.heap.size, 0, none⟩ = some v ∧ (W.alloc (.cells #[v] t)).frozen? ⟨W.heap.size, 0, none⟩ = false :=
  ⟨by rw [(Var.new W #[v] t).cells 0]; rfl, (Var.new W #[v] t).froz 0⟩
theorem cell_alloc_l {W : World} {a : Addr} {v : Value} (o : Obj) (h : W.cell? a = some v) : (W.alloc o).cell? a = some v := cell_kept h (World.grownBy_alloc W o none) (fun r e => by cases e)
theorem frozen_alloc_l {W : World} {a : Addr} {v : Value} (o : Obj) (h : W.cell? a = some v) (hf : W.frozen? a = false) : (W.alloc o).frozen? a = false := (frozen_kept h (World.grownBy_alloc W o none) (fun r e => by cases e)).trans hf
theorem named_any (w : World) : Calls Tryz.prog 80 #[] w fun e w' => e = .returned (.func (.func 110) #[] #[]) ∧ w = w' := by
  go_enter Tryz.func80, Tryz.ntmps80
  go_wp2
  go_ret
  exact ⟨rfl, rfl⟩

set_option maxRecDepth 100000 in
set_option maxHeartbeats 8000000 in
theorem oname_in (op : Int) (w : World) (G : Glob w) : Calls Tryz.prog 51 #[.int .i64 op] w fun e w' => e = .returned (.string ⟨(Opc.name op).toArray⟩) ∧ Below w.heap.size w w' := by
  refine (callsIn_wide (n := 5)).1 ?_
  refine callsIn_of_wp_marks Tryz.func51 rfl trivial ?_ rfl
  simp only [Tryz.ntmps51, List.size_toArray, List.length_cons, List.length_nil, Nat.reduceAdd, Nat.reduceSub, Array.replicate_succ, Array.replicate_zero, List.push_toArray, List.append_toArray, List.nil_append, List.cons_append]
  gi_wp2_with (refine ⟨trivial, ?_⟩; gi_at_call 80; refine (callsIn_wide.2 (named_any _)).mono ?_; rintro e w1 ⟨rfl, rfl⟩)
  have c0 := cell_new_l w (.int .i64 op) 45
  have c1 := cell_new_l (w.alloc (.cells #[.int .i64 op] 45)) (.string ⟨#[]⟩) 9
  simp only [World.size_alloc] at c1
  have hB0 : Below w.heap.size w ((w.alloc (.cells #[.int .i64 op] 45)).alloc (.cells #[.string ⟨#[]⟩] 9)) := ((Below.refl _ w).alloc (Nat.le_refl _) _).alloc (by simp) _
  refine wpIn_rangeFunc_ownF rfl (by omega) (gf := 110) (lb := #[]) rfl trivial (enters_of Tryz.func110 (by kernel_rfl) rfl)
    (named_stops 4 (by omega) _ (G.below hB0)) KeepC.trans (@keepC_b _) (Below.refl _ _) (fun _ => rfl)
    (fun pre W => (Opc.look op pre = none ∧ W.cell? ⟨w.heap.size, 0, none⟩ = some (.int .i64 op) ∧ W.cell? ⟨w.heap.size + 1, 0, none⟩ = some (.string ⟨#[]⟩) ∧ W.frozen? ⟨w.heap.size + 1, 0, none⟩ = false) ∧ Below w.heap.size w W)
    (fun c pre W => (c = .ret ∧ ∃ p x, Opc.look op p = none ∧ x.1 = op ∧ pre = p ++ [x] ∧ W.cell? ⟨w.heap.size + 1, 0, none⟩ = some (.string ⟨x.2.toArray⟩)) ∧ Below w.heap.size w W)
    (OwnFrom.and (Own.from (fun s A B row hs hg hr => ⟨hs.1, cell_kept hs.2.1 hg hr, cell_kept hs.2.2.1 hg hr, (frozen_kept hs.2.2.1 hg hr).trans hs.2.2.2⟩) _) (ownFrom_below (Nat.le_refl _) (by simp; omega)))
    (fun c => OwnFrom.and (Own.from (fun s A B row hs hg hr => by obtain ⟨h1, p, x, h2, h3, h4, h5⟩ := hs; exact ⟨h1, p, x, h2, h3, h4, cell_kept h5 hg hr⟩) _) (ownFrom_below (Nat.le_refl _) (by simp; omega)))
    ⟨⟨rfl, cell_alloc_l _ c0.1, c1.1, c1.2⟩, hB0⟩
    (fun x => { tmps := #[.int .i64 op, .pointer (some ⟨w.heap.size, 0, none⟩), .pointer (some ⟨w.heap.size + 1, 0, none⟩), .int .i64 x.1, .string ⟨x.2.toArray⟩, .func (.func 110) #[] #[], .int .i64 x.1, .string ⟨x.2.toArray⟩, undef, undef, undef, undef], defers := [] }) ?assign ?body ?done ?stop
  case assign =>
    intro l x W K hK
    dsimp only [encP]
    gi_wp2
    exact hK
  case body =>
    rintro l pre ⟨xo, xn⟩ W ⟨⟨hp, hcw, hcr, hfr⟩, hB⟩ _
    dsimp only
    rcases hq : (xo == op) with _ | _
    · gi_wp2
      exact ⟨KeepsOthers.refl _, KeepC.refl _, ⟨Opc.look_miss hp (by simpa using hq), hcw, hcr, hfr⟩, hB⟩
    · gi_wp2
      exact ⟨KeepsOthers.setCell _ _ _, ⟨rfl, pre, (xo, xn), hp, by simpa using hq, rfl, World.cell?_setCell_same' _ _ _ (by rw [hcr]; rfl)⟩, hB.setCell (p := ⟨w.heap.size + 1, 0, none⟩) (by simp) _⟩
  case done =>
    rintro D ys W hD rfl ⟨⟨hne, _, hcr, hfr⟩, hB⟩ hK
    have hnm : Opc.name op = [] := by rw [Opc.name, hne]; rfl
    gi_wp2
    have hK' := (KeepsOthers.setCell W ⟨w.heap.size + 1, 0, none⟩ (.string ⟨#[]⟩)).same D _ hK rfl
    refine ⟨by simp, .inl ⟨_, _, rfl, run_takeDeferred hK', ?_⟩⟩
    have hc5 := cell_kept (World.cell?_setCell_same' W ⟨w.heap.size + 1, 0, none⟩ (.string ⟨#[]⟩) (by rw [hcr]; rfl)) (grownBy_putObj' _ D (.deferred none)) (fun r e => by cases e; exact ⟨_, hK', rfl⟩)
    refine ⟨.string ⟨#[]⟩, ?_, by rw [hnm], (hB.setCell (p := ⟨w.heap.size + 1, 0, none⟩) (by simp) _).trans (belowK_b (w := w) (Nat.le_refl _) _ D _ _ (by simp at hD; omega) hK' rfl rfl)⟩
    simp [results, Tryz.f51, go_sem, hc5]
  case stop =>
    rintro D c pre W hD hpre ⟨⟨rfl, p, x, h1, h2, rfl, hcr⟩, hB⟩ hK
    have hnm : Opc.name op = x.2 := by rw [Opc.name, Opc.look_hit h1 h2 hpre]; rfl
    gi_wp2
    refine ⟨by simp, .inl ⟨_, _, rfl, run_takeDeferred hK, ?_⟩⟩
    have hc5 := cell_kept hcr (grownBy_putObj' _ D (.deferred none)) (fun r e => by cases e; exact ⟨_, hK, rfl⟩)
    refine ⟨.string ⟨x.2.toArray⟩, ?_, by rw [hnm], hB.trans (belowK_b (w := w) (Nat.le_refl _) W D _ _ (by simp at hD; omega) hK rfl rfl)⟩
    simp [results, Tryz.f51, go_sem, hc5]

theorem oknown_any (op : Int) (w : World) (G : Glob w) : Calls Tryz.prog 47 #[.int .i64 op] w fun e w' => e = .returned (.bool (!(Opc.name op == []))) ∧ Below w.heap.size w w' := by
  have HN := Lib.hid (oname_in op w G)
  have hq := beq_bytes (Opc.name op) []
  obtain ⟨nm, hnm⟩ : ∃ x, Opc.name op = x := ⟨_, rfl⟩
  rw [hnm] at HN hq ⊢
  rcases ho : decide (nm = []) with _ | _
  · have hb : (nm == []) = false := by simpa using ho
    have hne := bne_no (show nm ≠ [] by simpa using ho)
    clear hq ho
    go_enter Tryz.func47, Tryz.ntmps47
    go_wp2_with (go_at_call 51; refine HN.out.mono ?_; rintro e w1 ⟨rfl, hb⟩)
    go_ret
    exact ⟨by first | rfl | (congr 1; congr 1; rw [‹(nm == []) = false›]; first | rfl | exact hne), ‹Below _ _ _›⟩
  · obtain rfl : nm = [] := by simpa using ho
    clear hq ho
    go_enter Tryz.func47, Tryz.ntmps47
    go_wp2_with (go_at_call 51; refine HN.out.mono ?_; rintro e w1 ⟨rfl, hb⟩)
    go_ret
    exact ⟨rfl, ‹Below _ _ _›⟩

set_option maxRecDepth 100000 in
set_option maxHeartbeats 8000000 in
theorem ofind_any (s : List UInt8) (w : World) (G : Glob w) : Calls Tryz.prog 99 #[.string ⟨s.toArray⟩] w fun e w' => e = .returned (found (Opc.seek s Opc.all)) ∧ Below w.heap.size w w' := by
  refine (callsIn_wide (n := 5)).1 ?_
  refine callsIn_of_wp_marks Tryz.func99 rfl trivial ?_ rfl
  simp only [Tryz.ntmps99, List.size_toArray, List.length_cons, List.length_nil, Nat.reduceAdd, Nat.reduceSub, Array.replicate_succ, Array.replicate_zero, List.push_toArray, List.append_toArray, List.nil_append, List.cons_append]
  gi_wp2_with (refine ⟨trivial, ?_⟩; gi_at_call 80; refine (callsIn_wide.2 (named_any _)).mono ?_; rintro e w1 ⟨rfl, rfl⟩)
  have c0 := cell_new_l w (.string ⟨s.toArray⟩) 9
  have c1 := cell_new_l (w.alloc (.cells #[.string ⟨s.toArray⟩] 9)) (.int .i64 0) 45
  have c2 := cell_new_l ((w.alloc (.cells #[.string ⟨s.toArray⟩] 9)).alloc (.cells #[.int .i64 0] 45)) (.bool false) 4
  simp only [World.size_alloc] at c1 c2
  have hB0 : Below w.heap.size w (((w.alloc (.cells #[.string ⟨s.toArray⟩] 9)).alloc (.cells #[.int .i64 0] 45)).alloc (.cells #[.bool false] 4)) := (((Below.refl _ w).alloc (Nat.le_refl _) _).alloc (by simp) _).alloc (by simp; omega) _
  refine wpIn_rangeFunc_ownF rfl (by omega) (gf := 110) (lb := #[]) rfl trivial (enters_of Tryz.func110 (by kernel_rfl) rfl)
    (named_stops 4 (by omega) _ (G.below hB0)) KeepC.trans (@keepC_b _) (Below.refl _ _) (fun _ => rfl)
    (fun pre W => (Opc.seek s pre = none ∧ W.cell? ⟨w.heap.size, 0, none⟩ = some (.string ⟨s.toArray⟩) ∧ W.cell? ⟨w.heap.size + 1, 0, none⟩ = some (.int .i64 0) ∧ W.frozen? ⟨w.heap.size + 1, 0, none⟩ = false ∧ W.cell? ⟨w.heap.size + 1 + 1, 0, none⟩ = some (.bool false) ∧ W.frozen? ⟨w.heap.size + 1 + 1, 0, none⟩ = false) ∧ Below w.heap.size w W)
    (fun c pre W => (c = .ret ∧ ∃ p x, Opc.seek s p = none ∧ x.2 = s ∧ pre = p ++ [x] ∧ W.cell? ⟨w.heap.size + 1, 0, none⟩ = some (.int .i64 x.1) ∧ W.cell? ⟨w.heap.size + 1 + 1, 0, none⟩ = some (.bool true)) ∧ Below w.heap.size w W)
    (OwnFrom.and (Own.from (fun s A B row hs hg hr => ⟨hs.1, cell_kept hs.2.1 hg hr, cell_kept hs.2.2.1 hg hr, (frozen_kept hs.2.2.1 hg hr).trans hs.2.2.2.1, cell_kept hs.2.2.2.2.1 hg hr, (frozen_kept hs.2.2.2.2.1 hg hr).trans hs.2.2.2.2.2⟩) _) (ownFrom_below (Nat.le_refl _) (by simp; omega)))
    (fun c => OwnFrom.and (Own.from (fun s A B row hs hg hr => by obtain ⟨h1, p, x, h2, h3, h4, h5, h6⟩ := hs; exact ⟨h1, p, x, h2, h3, h4, cell_kept h5 hg hr, cell_kept h6 hg hr⟩) _) (ownFrom_below (Nat.le_refl _) (by simp; omega)))
    ⟨⟨rfl, cell_alloc_l _ (cell_alloc_l _ c0.1), cell_alloc_l _ c1.1, frozen_alloc_l _ c1.1 c1.2, c2.1, c2.2⟩, hB0⟩
    (fun x => { tmps := #[.string ⟨s.toArray⟩, .pointer (some ⟨w.heap.size, 0, none⟩), .pointer (some ⟨w.heap.size + 1, 0, none⟩), .pointer (some ⟨w.heap.size + 1 + 1, 0, none⟩), .int .i64 x.1, .string ⟨x.2.toArray⟩, .func (.func 110) #[] #[], .int .i64 x.1, .string ⟨x.2.toArray⟩, undef, undef, undef, undef], defers := [] }) ?assign ?body ?done ?stop
  case assign =>
    intro l x W K hK
    dsimp only [encP]
    gi_wp2
    exact hK
  case body =>
    rintro l pre ⟨xo, xn⟩ W ⟨⟨hp, hcw, hcr, hfr, hcs, hfs⟩, hB⟩ _
    dsimp only
    have hqb := beq_bytes xn s
    rcases hq : decide (xn = s) with _ | _
    · have hq2 : (xn == s) = false := by simpa using hq
      have hm := Opc.seek_miss (x := (xo, xn)) hp (by simpa using hq)
      rw [hq] at hqb
      clear hq
      gi_wp2
      exact ⟨KeepsOthers.refl _, KeepC.refl _, ⟨hm, hcw, hcr, hfr, hcs, hfs⟩, hB⟩
    · have hq2 : (xn == s) = true := by simpa using hq
      have hm : xn = s := by simpa using hq
      rw [hq] at hqb
      clear hq
      gi_wp2
      refine ⟨(KeepsOthers.setCell _ _ _).trans (KeepsOthers.setCell _ _ _), ⟨rfl, pre, (xo, xn), hp, hm, rfl, ?_, ?_⟩, (hB.setCell (p := ⟨w.heap.size + 1, 0, none⟩) (by simp) _).setCell (p := ⟨w.heap.size + 1 + 1, 0, none⟩) (by simp; omega) _⟩
      · rw [World.cell?_setCell_other _ _ _ _ (by simp)]
        exact World.cell?_setCell_same' _ _ _ (by rw [hcr]; rfl)
      · exact World.cell?_setCell_same' _ _ _ (by rw [World.cell?_setCell_other _ _ _ _ (by simp), hcs]; rfl)
  case done =>
    rintro D ys W hD rfl ⟨⟨hne, _, hcr, hfr, hcs, hfs⟩, hB⟩ hK
    have hnm : found (Opc.seek s Opc.all) = .tuple #[.int .i64 0, .bool false] := by rw [hne]; rfl
    gi_wp2
    have hK' := ((KeepsOthers.setCell W ⟨w.heap.size + 1, 0, none⟩ (.int .i64 0)).trans (KeepsOthers.setCell _ ⟨w.heap.size + 1 + 1, 0, none⟩ (.bool false))).same D _ hK rfl
    refine ⟨by simp, .inl ⟨_, _, rfl, run_takeDeferred hK', ?_⟩⟩
    have hc5 := cell_kept ((World.cell?_setCell_other (W.setCell ⟨w.heap.size + 1, 0, none⟩ (.int .i64 0)) ⟨w.heap.size + 1 + 1, 0, none⟩ ⟨w.heap.size + 1, 0, none⟩ (.bool false) (by simp)).trans (World.cell?_setCell_same' W ⟨w.heap.size + 1, 0, none⟩ (.int .i64 0) (by rw [hcr]; rfl))) (grownBy_putObj' _ D (.deferred none)) (fun r e => by cases e; exact ⟨_, hK', rfl⟩)
    have hc6 := cell_kept (World.cell?_setCell_same' (W.setCell ⟨w.heap.size + 1, 0, none⟩ (.int .i64 0)) ⟨w.heap.size + 1 + 1, 0, none⟩ (.bool false) (by rw [World.cell?_setCell_other _ _ _ _ (by simp), hcs]; rfl)) (grownBy_putObj' _ D (.deferred none)) (fun r e => by cases e; exact ⟨_, hK', rfl⟩)
    refine ⟨.tuple #[.int .i64 0, .bool false], ?_, by rw [hnm], ((hB.setCell (p := ⟨w.heap.size + 1, 0, none⟩) (by simp) _).setCell (p := ⟨w.heap.size + 1 + 1, 0, none⟩) (by simp; omega) _).trans (belowK_b (w := w) (Nat.le_refl _) _ D _ _ (by simp at hD; omega) hK' rfl rfl)⟩
    simp [results, Tryz.f99, go_sem, hc5, hc6]
  case stop =>
    rintro D c pre W hD hpre ⟨⟨rfl, p, x, h1, h2, rfl, hcr, hcs⟩, hB⟩ hK
    have hnm : found (Opc.seek s Opc.all) = .tuple #[.int .i64 x.1, .bool true] := by rw [Opc.seek_hit h1 h2 hpre]; rfl
    gi_wp2
    refine ⟨by simp, .inl ⟨_, _, rfl, run_takeDeferred hK, ?_⟩⟩
    have hc5 := cell_kept hcr (grownBy_putObj' _ D (.deferred none)) (fun r e => by cases e; exact ⟨_, hK, rfl⟩)
    have hc6 := cell_kept hcs (grownBy_putObj' _ D (.deferred none)) (fun r e => by cases e; exact ⟨_, hK, rfl⟩)
    refine ⟨.tuple #[.int .i64 x.1, .bool true], ?_, by rw [hnm], hB.trans (belowK_b (w := w) (Nat.le_refl _) W D _ _ (by simp at hD; omega) hK rfl rfl)⟩
    simp [results, Tryz.f99, go_sem, hc5, hc6]
end Go.Proofs.YtmhmpobjjhbklaaGreatDoor
