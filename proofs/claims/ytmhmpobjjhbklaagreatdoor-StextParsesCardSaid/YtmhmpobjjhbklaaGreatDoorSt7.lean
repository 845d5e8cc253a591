/-
  Layer 40, the program: Print. (Printed by gen_st7.py.)
-/
import Derived.Test.YtmhmpobjjhbklaaGreatDoorSt6
set_option linter.unusedVariables false
set_option linter.unusedSimpArgs false
namespace Go.Proofs.YtmhmpobjjhbklaaGreatDoor
namespace St
def funcO (x : Ssa) : List UInt8 := [102, 117, 110, 99, 32] ++ Ty.text x.ps x.rs
def blkO (b : Blk) : List UInt8 := join [[98, 108, 111, 99, 107], row b.params]
def blkLinesO (b : Blk) : List (List UInt8) := blkO b :: b.ins.map insO ++ [finO b.fin]
def linesO (x : Ssa) : List (List UInt8) := [funcO x, valsO x.vals] ++ x.blocks.flatMap blkLinesO
def printO (x : Ssa) : List UInt8 := if may x then Lib.join (linesO x) [10] ++ [10] else []
end St
open Go.RowKit
open St (InR)
theorem cells4 {W : World} {K : Nat} {t : TypeId} {v0 v1 v2 v3 : Value} (h : Var W K #[v0, v1, v2, v3] t) : W.cell? ⟨K, 0, none⟩ = some v0 ∧ W.cell? ⟨K, 1, none⟩ = some v1 ∧ W.cell? ⟨K, 2, none⟩ = some v2 ∧ W.cell? ⟨K, 3, none⟩ = some v3 :=
  ⟨h.cells 0, h.cells 1, h.cells 2, h.cells 3⟩
theorem flatZ (l : List Int) : l.flatMap encZ = l.map (Value.int .i64) := by
  induction l with
  | nil => rfl
  | cons x l ih => rw [List.flatMap_cons, ih]; rfl
theorem own_ne_var {W : World} {base : Nat} {e t : TypeId} {k n : Nat} {v : Value} {xs : List Value} {K : Nat} {cs : Array Value} (h : W.ownsRow base e k v n xs) (hv : Var W K cs t) (hte : t ≠ e) : v.ownBlock ≠ some K := fun hk => by
  obtain ⟨_, h⟩ := h
  rcases h with ⟨rfl, _⟩ | ⟨g, cap, cur, rfl, hbg, hheap, _⟩
  · cases hk
  · simp [Value.ownBlock] at hk
    subst hk
    unfold Var at hv
    rw [hv] at hheap
    injection hheap with hx
    injection hx with h1 h2 h3
    exact hte h2
theorem var_grown {W w' : World} {base : Nat} {e t : TypeId} {k n : Nat} {v : Value} {xs : List Value} {K : Nat} {cs : Array Value} (hv : Var W K cs t) (h : W.ownsRow base e k v n xs) (hte : t ≠ e) (hg : W.grownBy w' v.ownBlock) : Var w' K cs t :=
  (hg.block K hv.lt (fun e => own_ne_var h hv hte e.symm)).trans hv
theorem RdS.rdI {w : World} {B : Nat} {A : Option Addr} {l : List Int} (h : RdS w B A 1 encZ l) : RdI w B A l := by
  have := h.reads encZ_len
  rw [flatZ] at this
  exact this
theorem lit_own2 {α : Type} {enc : α → List Value} {k n base : Nat} {e : TypeId} {l : List α} {cs : Array Value} (w : World) (hb : base ≤ w.heap.size) (hcs : cs.toList = l.flatMap enc) (hk : ∀ x, (enc x).length = k) (hn : l.length = n) (hm : n ≤ 1000000) :
    (w.alloc (.cells cs e)).ownsRow base e k (.slice (some ⟨w.heap.size, 0, none⟩) n n) n (l.flatMap enc) := by
  have := World.ownsRow_lit (base := base) (e := e) (size := k) w cs n hb (by unfold maxLen; omega) (by rw [← Array.length_toList, hcs, flat_len hk, hn])
  rw [hcs] at this
  exact this
theorem RdT.insOn {w w' : World} {S : Nat → Prop} {A : Option Addr} {l : List St.Ins} (h : RdT w S A 7 (InsAt S) l) (hb : Below w.heap.size w w') : RdT w' S A 7 (InsAt S) l := h.keep (fun g o x hs hx => InsAt.keep (Below.keep hb S) hb.size g o x hs hx) hb.size
theorem RdT.edgeOn {w w' : World} {S : Nat → Prop} {A : Option Addr} {l : List St.Edge} (h : RdT w S A 2 (EdgeAt S) l) (hb : Below w.heap.size w w') : RdT w' S A 2 (EdgeAt S) l := h.keep (fun g o x hs hx => EdgeAt.keep (Below.keep hb S) hb.size g o x hs hx) hb.size
theorem RdT.blkOn {w w' : World} {S : Nat → Prop} {A : Option Addr} {l : List St.Blk} (h : RdT w S A 7 (BlkAt S) l) (hb : Below w.heap.size w w') : RdT w' S A 7 (BlkAt S) l := h.keep (fun g o x hs hx => BlkAt.keep (Below.keep hb S) hb.size g o x hs hx) hb.size

set_option maxHeartbeats 16000000 in
set_option maxRecDepth 100000 in
/-- stext.Print. -/
theorem sprint_any (x : St.Ssa) (hx : x.Ok) (hlen : (Lib.join (St.linesO x) [10]).length ≤ 1000000) (S : Nat → Prop) (P R V B : Option Addr) (c1 c2 c3 c4 : Nat) (w : World) (h : SsaAt S w x P R V B) (G : Glob w) :
    Calls Tryz.prog 9 #[ssaV x P c1 R c2 V c3 B c4] w fun e w' => e = .returned (.string ⟨(St.printO x).toArray⟩) ∧ Below w.heap.size w w' := by
  have HW := Lib.hid (fun W (h : SsaAt S W x P R V B) (G : Glob W) => swritable_any x hx S P R V B c1 c2 c3 c4 W h G)
  unfold ssaV at HW ⊢
  obtain ⟨i0, hi0, hz0, hz1, hz2⟩ := info_parts info_string
  unfold St.printO
  obtain ⟨M, hM⟩ : ∃ b, St.may x = b := ⟨_, rfl⟩
  rw [hM] at HW ⊢
  clear hM
  have hxo := hx
  obtain ⟨m1, m2, m3, m4, m5⟩ := hx
  have hh := Lib.hid h
  obtain ⟨r1, r2, r3, r4⟩ := h
  obtain ⟨L, hL⟩ : ∃ l, St.linesO x = l := ⟨_, rfl⟩
  rw [hL] at hlen ⊢
  have hL0 : L = [St.funcO x, St.valsO x.vals] ++ x.blocks.flatMap St.blkLinesO := hL.symm
  unfold St.funcO at hL0
  have HTX := Lib.hid (fun W (hb : Below w.heap.size w W) => text_any P R c1 c2 x.ps x.rs W ((r1.on' hb).rds.rdI) ((r2.on' hb).rds.rdI) m1 m2)
  have HVA := Lib.hid (fun W (hb : Below w.heap.size w W) => svals_any V c3 _ x.vals rfl m3 W (r3.on' hb).rds)
  have HB4 := Lib.hid (fun W (hb : Below w.heap.size w W) => RdT.blkOn r4 hb)
  have hl1 := list_len x.ps m1
  have hl2 := list_len x.rs m2
  have htl : (Ty.text x.ps x.rs).length ≤ 300000 := by unfold Ty.text; simp; omega
  have HM5 := Lib.hid m5
  clear r1 r2 r3 r4 hl1 hl2 m5 hL
  obtain ⟨TX, htx⟩ : ∃ y, Ty.text x.ps x.rs = y := ⟨_, rfl⟩
  rw [htx] at HTX hL0 htl
  obtain ⟨VO, hvo⟩ : ∃ y, St.valsO x.vals = y := ⟨_, rfl⟩
  rw [hvo] at HVA hL0
  obtain ⟨FO, hfo⟩ : ∃ y, [102, 117, 110, 99, 32] ++ TX = y := ⟨_, rfl⟩
  have HE5 := Lib.hid ((cat2 [102, 117, 110, 99, 32] TX).trans (by rw [hfo]))
  rw [hfo] at hL0
  have HL0 := Lib.hid hL0
  have x5 : ¬ 9223372036854775807 < 5 + TX.length := by omega
  obtain ⟨ps, rs, vals, blocks⟩ := x
  dsimp only at *
  have HLEN := Lib.hid hlen
  clear htx hvo hfo hL0 hlen hxo
  rcases M with _ | _
  · go_enter Tryz.func9, Tryz.ntmps9
    go_wp2_with (go_at_call 15; refine (HW.out _ (hh.out.on ((Below.refl _ _).alloc (Nat.le_refl _) _)) (G.below ((Below.refl _ _).alloc (Nat.le_refl _) _))).mono ?_; rintro e w1 ⟨rfl, hb⟩; have hB := below_one hb)
    go_ret
    exact ⟨rfl, hB⟩
  go_enter Tryz.func9, Tryz.ntmps9
  go_upto_region 3 with (go_at_call 15; refine (HW.out _ (hh.out.on ((Below.refl _ _).alloc (Nat.le_refl _) _)) (G.below ((Below.refl _ _).alloc (Nat.le_refl _) _))).mono ?_; rintro e w1 ⟨rfl, hb⟩; have hV := (Var.new w #[.slice P ps.length c1, .slice R rs.length c2, .slice V vals.length c3, .slice B blocks.length c4] 27).below hb (by simp); have hB := below_one hb; clear hb)
  refine at_code (F := fun W => Var W w.heap.size #[.slice P ps.length c1, .slice R rs.length c2, .slice V vals.length c3, .slice B blocks.length c4] 27 ∧ Below w.heap.size w W) ⟨hV, hB⟩ ?_
  clear hV hB hh HW
  rintro w0 ⟨V0, B0⟩
  have S0 := cells4 V0
  replace V0 : Var w0.drew _ _ _ := V0
  replace B0 : Below w.heap.size w w0.drew := B0.trans (below_drewN w0 1 |>.mono B0.size)
  have S0' := cells4 V0
  refine wp_region_held_drew (S := (fun W => W.cell? ⟨w.heap.size, 0, none⟩ = some (.slice P ps.length c1) ∧ W.cell? ⟨w.heap.size, 1, none⟩ = some (.slice R rs.length c2) ∧ W.cell? ⟨w.heap.size, 2, none⟩ = some (.slice V vals.length c3) ∧ W.cell? ⟨w.heap.size, 3, none⟩ = some (.slice B blocks.length c4))) (by kernel_rfl) ?_ (fun hHeld0 => ?_)
  · first | assumption | go_keep
  refine wpAnyH_take (i := 0) (oi := { dst := some 11, op := Go.Op.fieldAddr 27 (Go.Operand.tmp 1) 0, type := 0, pos := "stext.go:132", after := #[], guard := none }) (v := ?v_1_0) rfl (by kernel_rfl) (by kernel_rfl) (by kernel_rfl) (fun _ _ _ h => h) (Or.inl ⟨by rfl, ?hy_1_0⟩) (by assumption) ?rest_1_0
  case hy_1_0 => (intro w hSw; (try dsimp only at hSw); go_simp; (try (with_reducible rfl)))
  (try simp only [Act.put, List.setIfInBounds_toArray, List.set_cons_succ, List.set_cons_zero])
  refine wpAnyH_take (i := 1) (oi := { dst := some 12, op := Go.Op.load 24 (Go.Operand.tmp 11), type := 24, pos := "stext.go:132", after := #[{ on := 0, ground := Go.Ground.data }], guard := none }) (v := ?v_1_1) rfl (by kernel_rfl) (by kernel_rfl) (by kernel_rfl) (fun _ _ _ h => h) (Or.inl ⟨by rfl, ?hy_1_1⟩) (by assumption) ?rest_1_1
  case hy_1_1 => (intro w hSw; (try dsimp only at hSw); go_simp; (try (with_reducible rfl)))
  (try simp only [Act.put, List.setIfInBounds_toArray, List.set_cons_succ, List.set_cons_zero])
  refine wpAnyH_take (i := 4) (oi := { dst := some 15, op := Go.Op.fieldAddr 27 (Go.Operand.tmp 1) 1, type := 0, pos := "stext.go:132", after := #[], guard := none }) (v := ?v_1_4) rfl (by kernel_rfl) (by kernel_rfl) (by kernel_rfl) (fun _ _ _ h => h) (Or.inl ⟨by rfl, ?hy_1_4⟩) (by assumption) ?rest_1_4
  case hy_1_4 => (intro w hSw; (try dsimp only at hSw); go_simp; (try (with_reducible rfl)))
  (try simp only [Act.put, List.setIfInBounds_toArray, List.set_cons_succ, List.set_cons_zero])
  refine wpAnyH_take (i := 5) (oi := { dst := some 16, op := Go.Op.load 22 (Go.Operand.tmp 15), type := 22, pos := "stext.go:132", after := #[{ on := 4, ground := Go.Ground.data }], guard := none }) (v := ?v_1_5) rfl (by kernel_rfl) (by kernel_rfl) (by kernel_rfl) (fun _ _ _ h => h) (Or.inl ⟨by rfl, ?hy_1_5⟩) (by assumption) ?rest_1_5
  case hy_1_5 => (intro w hSw; (try dsimp only at hSw); go_simp; (try (with_reducible rfl)))
  (try simp only [Act.put, List.setIfInBounds_toArray, List.set_cons_succ, List.set_cons_zero])
  refine wpAnyH_ready (rs := [2]) (by kernel_rfl) (by simp) ?_
  refine AllReadyH.cons (o := ⟨some 13, .call { callee := .value (.func 16), args := #[.tmp 12], argTypes := #[24] }, 9, "stext.go:132", #[⟨1, .data⟩], none⟩) rfl (fun K hK => ?_) AllReadyH.nil
  go_simp
  (refine (HTX.out _ B0).mono ?_; rintro e w1 ⟨rfl, hb1⟩; have V1 := V0.below hb1 V0.lt; have S1 := cells4 V1; have B1 := B0.trans (hb1.mono B0.size))
  (try dsimp only)
  refine hK.out _ _ ?_ (fun hHeld1 => ?_)
  · first | trivial | ((try dsimp only); first | assumption | trivial | go_keep)
  clear hK K hHeld0
  (try simp only [Act.put, List.setIfInBounds_toArray, List.set_cons_succ, List.set_cons_zero])
  refine wpAnyH_take (i := 3) (oi := { dst := some 14, op := Go.Op.binOp Go.BinOp.add 9 (Go.Operand.const (Go.Value.string { data := #[102, 117, 110, 99, 32] })) (Go.Operand.tmp 13) 9, type := 9, pos := "stext.go:132", after := #[{ on := 2, ground := Go.Ground.data }], guard := none }) (v := ?v_1_3) rfl (by kernel_rfl) (by kernel_rfl) (by kernel_rfl) (fun _ _ _ h => h) (Or.inl ⟨by rfl, ?hy_1_3⟩) (by assumption) ?rest_1_3
  case hy_1_3 => (intro w hSw; (try dsimp only at hSw); go_simp; (try (with_reducible rfl)))
  (try simp only [Act.put, List.setIfInBounds_toArray, List.set_cons_succ, List.set_cons_zero])
  refine wpAnyH_ready (rs := [6]) (by kernel_rfl) (by simp) ?_
  refine AllReadyH.cons (o := ⟨some 17, .call { callee := .value (.func 17), args := #[.tmp 16], argTypes := #[22] }, 9, "stext.go:132", #[⟨5, .data⟩, ⟨2, .chain⟩], none⟩) rfl (fun K hK => ?_) AllReadyH.nil
  go_simp
  (refine (HVA.out _ B1).mono ?_; rintro e w2 ⟨rfl, hb2⟩; have V2 := V1.below hb2 V1.lt; have S2 := cells4 V2; have B2 := B1.trans (hb2.mono B1.size))
  (try dsimp only)
  refine hK.out _ _ ?_ (fun hHeld2 => ?_)
  · first | trivial | ((try dsimp only); first | assumption | trivial | go_keep)
  clear hK K hHeld1
  (try simp only [Act.put, List.setIfInBounds_toArray, List.set_cons_succ, List.set_cons_zero])
  refine wpAnyH_ready (rs := [7]) (by kernel_rfl) (by simp) ?_
  refine AllReadyH.cons (o := ⟨some 18, .buildSlice 54 2 #[(0, .tmp 14), (1, .tmp 17)], 54, "stext.go:132", #[⟨3, .data⟩, ⟨6, .data⟩], none⟩) rfl (fun K hK => ?_) AllReadyH.nil
  go_simp
  (rw [HE5.out]; have V3 := V2.alloc (.cells #[.string ⟨FO.toArray⟩, .string ⟨VO.toArray⟩] 9); have S3 := cells4 V3)
  (try dsimp only)
  refine hK.out _ _ ?_ (fun hHeld3 => ?_)
  · first | trivial | ((try dsimp only); first | assumption | trivial | go_keep)
  clear hK K hHeld2
  (try simp only [Act.put, List.setIfInBounds_toArray, List.set_cons_succ, List.set_cons_zero])
  refine wpAnyH_take (i := 8) (oi := { dst := some 3, op := Go.Op.assign (Go.Operand.tmp 18), type := 54, pos := "stext.go:132", after := #[{ on := 7, ground := Go.Ground.data }, { on := 6, ground := Go.Ground.chain }, { on := 0, ground := Go.Ground.phase }, { on := 1, ground := Go.Ground.phase }, { on := 2, ground := Go.Ground.phase }, { on := 3, ground := Go.Ground.phase }, { on := 4, ground := Go.Ground.phase }, { on := 5, ground := Go.Ground.phase }, { on := 6, ground := Go.Ground.phase }, { on := 7, ground := Go.Ground.phase }], guard := none }) (v := ?v_1_8) rfl (by kernel_rfl) (by kernel_rfl) (by kernel_rfl) (fun _ _ _ h => h) (Or.inl ⟨by rfl, ?hy_1_8⟩) (by assumption) ?rest_1_8
  case hy_1_8 => (intro w hSw; (try dsimp only at hSw); go_simp; (try (with_reducible rfl)))
  (try simp only [Act.put, List.setIfInBounds_toArray, List.set_cons_succ, List.set_cons_zero])
  refine wpAnyH_done (by kernel_rfl) ?_ _
  have hrow := lit_own2 (enc := encS) (k := 1) (n := 2) (base := w.heap.size) (e := 9) (l := [FO, VO]) (cs := #[.string ⟨FO.toArray⟩, .string ⟨VO.toArray⟩]) w2 B2.size rfl encS_len rfl (by omega)
  go_upto_region 4 with fail
  refine at_code (F := fun W => (∃ A, A = some ⟨w2.heap.size, 0, none⟩ ∧ W.ownsRow w.heap.size 9 1 (.slice A 2 2) 2 ([FO, VO].flatMap encS)) ∧ Var W w.heap.size #[.slice P ps.length c1, .slice R rs.length c2, .slice V vals.length c3, .slice B blocks.length c4] 27 ∧ Below w.heap.size w W) ⟨⟨_, rfl, hrow⟩, V3, B2.alloc B2.size _⟩ ?_
  clear hrow V0 V1 V2 V3 B0 B1 B2 S0 S0' S1 S2 S3 hb1 hb2
  rintro w0 ⟨⟨A0, hA0, hown⟩, V0, B0⟩
  rw [← hA0]
  clear hA0
  have y3 := V0.cells 3
  go_wp2
  go_loopw [3, 22] (fun ov iv wr => ∃ (i n : Nat) (A : Option Addr) (c : Nat), ov = .slice A n c ∧ iv = .int .i64 (i : Int) ∧ i ≤ blocks.length ∧ n ≤ 2 + i * 10002 ∧ Hid (([FO, VO] ++ (blocks.take i).flatMap St.blkLinesO).length = n) ∧ wr.ownsRow w.heap.size 9 1 (.slice A n c) n (([FO, VO] ++ (blocks.take i).flatMap St.blkLinesO).flatMap encS) ∧ Hid (Below w.heap.size w wr)) (fun _ iv _ => blocks.length - (intOf iv).toNat)
  case atStart => exact ⟨0, 2, A0, 2, rfl, rfl, by omega, by omega, Lib.hid rfl, hown, Lib.hid B0⟩
  case round =>
    clear y3 V0 B0 hown
    obtain ⟨i, n, A, c, rfl, rfl, hi, hn, HN, hown, HB⟩ := hrel
    by_cases hia : i < blocks.length
    · obtain ⟨g, o, rfl, hsg, hg, hblk⟩ := (HB4.out _ (Below.refl _ _)).get hia
      have htk : (blocks.take (i + 1)).flatMap St.blkLinesO = (blocks.take i).flatMap St.blkLinesO ++ St.blkLinesO blocks[i] := by rw [List.take_succ_eq_append_getElem hia, List.flatMap_append]; simp
      have hok := HM5.out blocks[i] (List.getElem_mem _)
      obtain ⟨b, hbv⟩ : ∃ b, blocks[i] = b := ⟨_, rfl⟩
      rw [hbv] at hblk htk hok
      obtain ⟨Ap, cp, Ai, ci, Aa, ca, At, ct, ⟨q0, q1, q2, q3, q4, q5, q6⟩, p1, p2, p3, p4⟩ := hblk.seven
      have hkc := Below.keep HB.out (fun _ => True)
      replace q0 := hkc _ _ trivial q0; replace q1 := hkc _ _ trivial q1; replace q2 := hkc _ _ trivial q2; replace q3 := hkc _ _ trivial q3; replace q4 := hkc _ _ trivial q4; replace q5 := hkc _ _ trivial q5; replace q6 := hkc _ _ trivial q6
      have HFN := Lib.hid (fun W (hb : Below w.heap.size w W) (G : Glob W) => sfin_any b.fin hok.fin S Aa ca At ct W (p3.on' hb).rds (p4.edgeOn hb) G)
      unfold finV at HFN
      have HRW := Lib.hid (fun W (hb : Below w.heap.size w W) (G : Glob W) => srow_any Ap cp _ b.params rfl (by have := hok.params.1; omega) hok.params.2 W (p1.on' hb).rds G)
      have hrl := St.row_len hok.params.2
      have hpl := hok.params.1
      have hil := hok.ins.1
      have hio := hok.ins.2
      have hbo : St.blkO b = St.join [[98, 108, 111, 99, 107], St.row b.params] := rfl
      have hbl : St.blkLinesO b = St.blkO b :: b.ins.map St.insO ++ [St.finO b.fin] := rfl
      have HJ := Lib.hid (fun W A (h : RdS W W.heap.size A 1 encS [[98, 108, 111, 99, 107], St.row b.params]) => sjoin_any A 2 2 [[98, 108, 111, 99, 107], St.row b.params] rfl (by omega) (by intro x hx; simp at hx; rcases hx with rfl | rfl <;> (try simp) <;> omega) W h)
      rw [← hbo] at HJ
      obtain ⟨BO, hBO⟩ : ∃ y, St.blkO b = y := ⟨_, rfl⟩
      rw [hBO] at HJ hbl
      obtain ⟨TR, htr⟩ : ∃ y, St.row b.params = y := ⟨_, rfl⟩
      rw [htr] at HRW HJ hrl
      obtain ⟨FT, hft⟩ : ∃ y, St.finO b.fin = y := ⟨_, rfl⟩
      rw [hft] at HFN hbl
      have HP2 := Lib.hid (fun W (hb : Below w.heap.size w W) => p2.insOn hb)
      obtain ⟨params, ins, fk, fc, fa, fe, ft⟩ := b
      dsimp only at *
      have x0 : (i : Int) < (blocks.length : Int) := by omega
      have x2 : (0 : Int) ≤ (i : Int) := by omega
      have HTK := Lib.hid htk
      have HBL := Lib.hid hbl
      have HIO := Lib.hid hio
      have hkeep : ∀ W : World, Below (wr.alloc (.cells #[.slice Ap params.length cp, .slice Ai ins.length ci, .int .i64 fk, .int .i64 fc, .slice Aa fa.length ca, .slice At fe.length ct, .int .i64 ft] 44)).heap.size (wr.alloc (.cells #[.slice Ap params.length cp, .slice Ai ins.length ci, .int .i64 fk, .int .i64 fc, .slice Aa fa.length ca, .slice At fe.length ct, .int .i64 ft] 44)) W → Hid (Var W wr.heap.size #[.slice Ap params.length cp, .slice Ai ins.length ci, .int .i64 fk, .int .i64 fc, .slice Aa fa.length ca, .slice At fe.length ct, .int .i64 ft] 44) ∧ Hid (Below w.heap.size w W) := fun W hb =>
        ⟨Lib.hid ((Var.new wr _ _).below hb (by simp)), Lib.hid (HB.out.trans ((below_one hb).mono HB.out.size))⟩
      have HKP := Lib.hid hkeep
      clear htk hbl hblk hok hbv hft htr hBO hbo p1 p2 p3 p4 hio hkeep
      go_upto_region 7 with fail
      have hown := hown.alloc (.cells #[.slice Ap params.length cp, .slice Ai ins.length ci, .int .i64 fk, .int .i64 fc, .slice Aa fa.length ca, .slice At fe.length ct, .int .i64 ft] 44)
      obtain ⟨U1, U3⟩ := HKP.out _ (Below.refl _ _)
      clear q0 q1 q2 q3 q4 q5 q6 hg HKP
      obtain ⟨W1, hW1⟩ : ∃ W1, wr.alloc (.cells #[.slice Ap params.length cp, .slice Ai ins.length ci, .int .i64 fk, .int .i64 fc, .slice Aa fa.length ca, .slice At fe.length ct, .int .i64 ft] 44) = W1 := ⟨_, rfl⟩
      rw [hW1] at hown U1 U3 ⊢
      clear hW1
      have y0 := U1.out.cells 0
      go_upto_region 8 with (first
        | (go_at_call 19; refine (HRW.out _ U3.out (G.below U3.out)).mono ?_; rintro e w1 ⟨rfl, hb1⟩; have hown := own_below hown hb1 (Nat.le_refl _); have U1 := Lib.hid (U1.out.below hb1 U1.out.lt); have U3 := Lib.hid (U3.out.trans (hb1.mono U3.out.size)); clear hb1)
        | (go_at_call 18; refine (HJ.out _ _ (block_rds encS_len rfl (heap_alloc_new w1 _))).mono ?_; rintro e w2 ⟨rfl, hb2⟩; have hb3 := below_one hb2; have hown := own_below hown hb3 (Nat.le_refl _); have U1 := Lib.hid (U1.out.below hb3 U1.out.lt); have U3 := Lib.hid (U3.out.trans (hb3.mono U3.out.size)); clear hb2 hb3)
        | (at_builtin; refine app_rs Tryz.underlying54 hi0 hz0 hz1 hz2 rfl (by omega) encS_len encS_one _ rfl (.tmp 26) (.tmp 32) rfl w.heap.size _ n _ (by rfl) (hown.alloc _) [BO] 1 1 _ rfl (by rfl) (one_str _ BO) (by omega) (by omega) (by have := U3.out.size; simp; omega) ?_; intro A' c' w9 hown9 hg; have V1 := Lib.hid (var_grown (U1.out.alloc _) (hown.alloc _) (by decide) hg); have V3 := Lib.hid ((U3.out.alloc U3.out.size _).trans (below_own (hown.alloc _) hg (by have := U3.out.size; simp; omega))); clear hg))
      clear U1 U3 hown
      obtain ⟨K, hK⟩ : ∃ K, wr.heap.size = K := ⟨_, rfl⟩
      rw [hK] at V1 ⊢
      clear hK
      have y1 := V1.out.cells 1
      go_wp2
      go_loopw [3, 37] (fun ov kv wr2 => ∃ (k m : Nat) (A : Option Addr) (c : Nat), ov = .slice A m c ∧ kv = .int .i64 (k : Int) ∧ k ≤ ins.length ∧ m ≤ n + 1 + k ∧ Hid (([FO, VO] ++ (blocks.take i).flatMap St.blkLinesO ++ [BO] ++ (ins.take k).map St.insO).length = m) ∧ wr2.ownsRow w.heap.size 9 1 (.slice A m c) m (([FO, VO] ++ (blocks.take i).flatMap St.blkLinesO ++ [BO] ++ (ins.take k).map St.insO).flatMap encS) ∧ Hid (Var wr2 K #[.slice Ap params.length cp, .slice Ai ins.length ci, .int .i64 fk, .int .i64 fc, .slice Aa fa.length ca, .slice At fe.length ct, .int .i64 ft] 44) ∧ Hid (Below w.heap.size w wr2)) (fun _ kv _ => ins.length - (intOf kv).toNat)
      case atStart => exact ⟨0, n + 1, A', c', rfl, rfl, by omega, by omega, Lib.hid (by rw [List.take_zero, List.map_nil, List.append_nil, List.length_append, HN.out]; rfl), by simpa using hown9, V1, V3⟩
      case round =>
        clear y1 hown9 V1 V3
        obtain ⟨k, m, A, c, rfl, rfl, hk, hm, HNk, hown, V1, U3⟩ := hrel
        by_cases hka : k < ins.length
        · obtain ⟨gi, oi, rfl, hsi, hgi, d0, d1, d2, d3, d4, ⟨Ba, ba, d5, z5⟩, Bb, bb, d6, z6⟩ := (HP2.out w (Below.refl _ _)).get hka
          have hkc := Below.keep U3.out (fun _ => True)
          replace d0 := hkc _ _ trivial d0; replace d1 := hkc _ _ trivial d1; replace d2 := hkc _ _ trivial d2; replace d3 := hkc _ _ trivial d3; replace d4 := hkc _ _ trivial d4; replace d5 := hkc _ _ trivial d5; replace d6 := hkc _ _ trivial d6
          have htk2 : (ins.take (k + 1)).map St.insO = (ins.take k).map St.insO ++ [St.insO ins[k]] := by rw [List.take_succ_eq_append_getElem hka, List.map_append]; rfl
          have hyo := HIO.out ins[k] (List.getElem_mem _)
          obtain ⟨y, hyv⟩ : ∃ y, ins[k] = y := ⟨_, rfl⟩
          rw [hyv] at d0 d1 d2 d3 d4 d5 d6 z5 z6 htk2 hyo
          have HIN := Lib.hid (fun W (hb : Below w.heap.size w W) (G : Glob W) => sins_any y hyo Ba ba Bb bb W (z5.on' hb).rds (z6.on' hb).rds G)
          unfold insV at HIN
          obtain ⟨IQ, hio2⟩ : ∃ s, St.insO y = s := ⟨_, rfl⟩
          rw [hio2] at HIN htk2
          obtain ⟨ik, iop, ia, ib, inn, iar, iou⟩ := y
          dsimp only at *
          have y0 : (k : Int) < (ins.length : Int) := by omega
          have y2 : (0 : Int) ≤ (k : Int) := by omega
          have HTK2 := Lib.hid htk2
          clear htk2 hyo hyv hio2 z5 z6 hkc
          go_upto_region 11 with fail
          have hown := hown.alloc (.cells #[.int .i64 ik, .int .i64 iop, .int .i64 ia, .int .i64 ib, .int .u64 (inn : Int), .slice Ba iar.length ba, .slice Bb iou.length bb] 48)
          have V1 := Lib.hid (V1.out.alloc (.cells #[.int .i64 ik, .int .i64 iop, .int .i64 ia, .int .i64 ib, .int .u64 (inn : Int), .slice Ba iar.length ba, .slice Bb iou.length bb] 48))
          have hbx := (Below.refl wr.heap.size wr).alloc (Nat.le_refl _) (.cells #[.int .i64 ik, .int .i64 iop, .int .i64 ia, .int .i64 ib, .int .u64 (inn : Int), .slice Ba iar.length ba, .slice Bb iou.length bb] 48)
          have U3 := Lib.hid (U3.out.trans (hbx.mono U3.out.size))
          have X1 := Var.new wr #[.int .i64 ik, .int .i64 iop, .int .i64 ia, .int .i64 ib, .int .u64 (inn : Int), .slice Ba iar.length ba, .slice Bb iou.length bb] 48
          clear hbx d0 d1 d2 d3 d4 d5 d6 hgi
          obtain ⟨W1, hW1⟩ : ∃ W1, wr.alloc (.cells #[.int .i64 ik, .int .i64 iop, .int .i64 ia, .int .i64 ib, .int .u64 (inn : Int), .slice Ba iar.length ba, .slice Bb iou.length bb] 48) = W1 := ⟨_, rfl⟩
          rw [hW1] at hown V1 U3 X1 ⊢
          clear hW1
          obtain ⟨e0, e1, e2, e3, e4, e5, e6⟩ := cells7 X1
          clear X1
          go_wp2_with (first
            | (go_at_call 20; refine (HIN.out _ U3.out (G.below U3.out)).mono ?_; rintro e w1 ⟨rfl, hb1⟩; have hown := own_below hown hb1 (Nat.le_refl _); have U1 := Lib.hid (V1.out.below hb1 V1.out.lt); have U3 := Lib.hid (U3.out.trans (hb1.mono U3.out.size)); clear hb1)
            | (at_builtin; refine app_rs Tryz.underlying54 hi0 hz0 hz1 hz2 rfl (by omega) encS_len encS_one _ rfl (.tmp 41) (.tmp 44) rfl w.heap.size _ m _ (by rfl) (hown.alloc _) [IQ] 1 1 _ rfl (by rfl) (one_str _ IQ) (by omega) (by omega) (by have := U3.out.size; simp; omega) ?_; intro A' c' w9 hown9 hg; have V1 := Lib.hid (var_grown (U1.out.alloc _) (hown.alloc _) (by decide) hg); have V3 := Lib.hid ((U3.out.alloc U3.out.size _).trans (below_own (hown.alloc _) hg (by have := U3.out.size; simp; omega))); clear hg))
          go_roundw
          case rel => exact ⟨k + 1, m + 1, A', c', rfl, by go_num, by omega, by omega, Lib.hid (by rw [HTK2.out, ← List.append_assoc, List.length_append, HNk.out]; rfl), by rw [HTK2.out, ← List.append_assoc]; exact hown9, V1, V3⟩
          case measure => simp [intOf]; omega
        · have hk2 : k = ins.length := by omega
          subst hk2
          rw [List.take_length] at HNk hown
          have HFN2 := Lib.hid (HFN.out wr U3.out (G.below U3.out))
          obtain ⟨z0, z1, z2, z3, z4, z5, z6⟩ := cells7 V1.out
          have y0 : ¬ (ins.length : Int) < (ins.length : Int) := by omega
          go_wp2_with (first
            | (go_at_call 21; refine HFN2.out.mono ?_; rintro e w1 ⟨rfl, hb1⟩; have hown := own_below hown hb1 (Nat.le_refl _); have U1 := Lib.hid (V1.out.below hb1 V1.out.lt); have U3 := Lib.hid (U3.out.trans (hb1.mono U3.out.size)); clear hb1)
            | (at_builtin; refine app_rs Tryz.underlying54 hi0 hz0 hz1 hz2 rfl (by omega) encS_len encS_one _ rfl (.tmp 47) (.tmp 51) rfl w.heap.size _ m _ (by rfl) (hown.alloc _) [FT] 1 1 _ rfl (by rfl) (one_str _ FT) (by omega) (by omega) (by have := U3.out.size; simp; omega) ?_; intro A' c' w9 hown9 hg; have V1 := Lib.hid (var_grown (U1.out.alloc _) (hown.alloc _) (by decide) hg); have V3 := Lib.hid ((U3.out.alloc U3.out.size _).trans (below_own (hown.alloc _) hg (by have := U3.out.size; simp; omega))); clear hg))
          go_roundw
          case rel => exact ⟨i + 1, m + 1, A', c', rfl, by go_num, by omega, by omega, Lib.hid (by rw [HTK.out, HBL.out, ← List.append_assoc, ← List.append_assoc, List.length_append, ← HNk.out]; simp), by rw [HTK.out, HBL.out]; simpa using hown9, V3⟩
          case measure => simp [intOf]; omega
    · have hi2 : i = blocks.length := by omega
      subst hi2
      rw [List.take_length, ← HL0.out] at hown HN
      have x0 : ¬ (blocks.length : Int) < (blocks.length : Int) := by omega
      have hll := HLEN.out
      obtain ⟨J, hJ⟩ : ∃ J, Lib.join L [10] = J := ⟨_, rfl⟩
      have HJJ := Lib.hid (sjoins_any _ _ _ _ L [10] wr HN.out hown (by omega) (by omega))
      rw [hJ] at HJJ hll
      have HJE := Lib.hid hJ
      have x5 : ¬ 9223372036854775807 < J.length + 1 := by omega
      have HE1 := Lib.hid (cat2 J [10])
      clear hJ hown
      go_wp2_with (go_at_call 22; refine HJJ.out.mono ?_; rintro e w1 ⟨rfl, hb⟩)
      go_ret
      refine ⟨?_, HB.out.trans (hb.mono HB.out.size)⟩
      rw [HJE.out]
      exact congrArg (fun s => Ending.returned (Value.string s)) HE1.out
end Go.Proofs.YtmhmpobjjhbklaaGreatDoor
