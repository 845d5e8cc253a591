/-
  Layer 40, the program: the line of a terminator. (Printed by gen_st5.py.)
-/
import Derived.Test.YtmhmpobjjhbklaaGreatDoorTk
import Derived.Test.YtmhmpobjjhbklaaGreatDoorSt4
set_option linter.unusedVariables false
set_option linter.unusedSimpArgs false
namespace Go.Proofs.YtmhmpobjjhbklaaGreatDoor
open Go.RowKit
open St (InR)

def finV (x : St.Fin) (A1 : Option Addr) (c1 : Nat) (A2 : Option Addr) (c2 : Nat) : Value := .agg #[.int .i64 x.kind, .int .i64 x.cond, .slice A1 x.args.length c1, .slice A2 x.edges.length c2, .int .i64 x.trap]
theorem cells5 {W : World} {K : Nat} {t : TypeId} {v0 v1 v2 v3 v4 : Value} (h : Var W K #[v0, v1, v2, v3, v4] t) : W.cell? ⟨K, 0, none⟩ = some v0 ∧ W.cell? ⟨K, 1, none⟩ = some v1 ∧ W.cell? ⟨K, 2, none⟩ = some v2 ∧ W.cell? ⟨K, 3, none⟩ = some v3 ∧ W.cell? ⟨K, 4, none⟩ = some v4 :=
  ⟨h.cells 0, h.cells 1, h.cells 2, h.cells 3, h.cells 4⟩
theorem cells2 {W : World} {K : Nat} {t : TypeId} {v0 v1 : Value} (h : Var W K #[v0, v1] t) : W.cell? ⟨K, 0, none⟩ = some v0 ∧ W.cell? ⟨K, 1, none⟩ = some v1 := ⟨h.cells 0, h.cells 1⟩

set_option maxHeartbeats 16000000 in
set_option maxRecDepth 100000 in
theorem sfin_any (x : St.Fin) (hx : x.Ok) (S : Nat → Prop) (A1 : Option Addr) (c1 : Nat) (A2 : Option Addr) (c2 : Nat) (w : World) (h1 : RdS w w.heap.size A1 1 encZ x.args) (h2 : RdT w S A2 2 (EdgeAt S) x.edges) (G : Glob w) :
    Calls Tryz.prog 21 #[finV x A1 c1 A2 c2] w fun e w' => e = .returned (.string ⟨(St.finO x).toArray⟩) ∧ Below w.heap.size w w' := by
  have hf0 := St.fin0_len hx
  unfold finV
  unfold St.finO
  obtain ⟨kind, cond, args, edges, trap⟩ := x
  obtain ⟨xc, ⟨xl1, xz1⟩, ⟨xl2, xz2⟩, xt⟩ := hx
  dsimp only at *
  have hGo := fun i => St.finGo_len (edges.take i) (St.fin0 ⟨kind, cond, args, edges, trap⟩) fun e he => xz2 e (List.mem_of_mem_take he)
  have hec := fun i => St.ecount_take edges i
  have hel := St.ecount_len edges
  obtain ⟨F0, hF0⟩ : ∃ y, St.fin0 ⟨kind, cond, args, edges, trap⟩ = y := ⟨_, rfl⟩
  simp only [hF0] at hGo hf0 ⊢
  have hgl : ∀ i, (St.finGo F0 (edges.take i)).length ≤ 900000 := fun i => by have := hGo i; have := hec i; omega
  unfold St.fin0 at hF0
  dsimp only at hF0
  have HK := Lib.hid (fun W (G : Glob W) => sword_any St.endT (by decide) St.endW rfl kind W G)
  have hkl := St.word_len St.endW_len kind
  have HON := Lib.hid (fun W (G : Glob W) => snumber_any [111, 110] (by simp) cond xc W G)
  have hol := St.number_len (l := [111, 110]) xc
  have HOF := Lib.hid (fun W (h : RdS W W.heap.size A1 1 encZ args) (G : Glob W) => slist_any [111, 102] (by simp) A1 c1 _ args rfl xl1 xz1 W h G)
  have hfl := St.list_len (s := [111, 102]) xz1
  have HTR := Lib.hid (fun W (G : Glob W) => snumber_any [116, 114, 97, 112] (by simp) trap xt W G)
  have htl := St.number_len (l := [116, 114, 97, 112]) xt
  rw [show St.endT = [106, 117, 109, 112, 32, 105, 102, 32, 115, 119, 105, 116, 99, 104, 32, 114, 101, 116, 117, 114, 110, 32, 116, 114, 97, 112] from rfl] at HK
  obtain ⟨⟨KW, kb⟩, hkw⟩ : ∃ y, St.word St.endW kind = y := ⟨_, rfl⟩
  rw [hkw] at HK hkl hF0
  obtain ⟨TO, hto⟩ : ∃ y, St.number [111, 110] cond = y := ⟨_, rfl⟩
  rw [hto] at HON hol hF0
  obtain ⟨TF, htf⟩ : ∃ y, St.list [111, 102] args = y := ⟨_, rfl⟩
  rw [htf] at HOF hfl hF0
  obtain ⟨TT, htt⟩ : ∃ y, St.number [116, 114, 97, 112] trap = y := ⟨_, rfl⟩
  rw [htt] at HTR htl ⊢
  have HJ0 := Lib.hid (fun W A (h : RdS W W.heap.size A 1 encS [[101, 110, 100], KW, TO, TF]) => sjoin_any A 4 4 [[101, 110, 100], KW, TO, TF] rfl (by omega) (by intro s hs; simp at hs hkl hol hfl; rcases hs with rfl | rfl | rfl | rfl <;> (try simp) <;> omega) W h)
  dsimp only at hF0
  rw [hF0] at HJ0
  have HF0 := Lib.hid hF0
  have HGL := Lib.hid hgl
  have HZ2 := Lib.hid xz2
  clear hF0 hgl hGo hec htt htf hto hkw hkl hol hfl xz1 xc xt xz2
  go_enter Tryz.func21, Tryz.ntmps21
  go_upto_region 2 with (first
    | (go_at_call 46; refine (HK.out _ (G.below ((Below.refl _ _).alloc (Nat.le_refl _) _))).mono ?_; rintro e w1 ⟨rfl, hb⟩; have hv := (Var.new w #[.int .i64 kind, .int .i64 cond, .slice A1 args.length c1, .slice A2 edges.length c2, .int .i64 trap] 42).below hb (by simp); have hB := below_one hb; clear hb))
  refine at_code (F := fun W => Var W w.heap.size #[.int .i64 kind, .int .i64 cond, .slice A1 args.length c1, .slice A2 edges.length c2, .int .i64 trap] 42 ∧ Below w.heap.size w W) ⟨hv, hB⟩ ?_
  clear hv hB
  rintro w0 ⟨V0, B0⟩
  have S0 := cells5 V0
  replace V0 : Var w0.drew _ _ _ := V0
  replace B0 : Below w.heap.size w w0.drew := B0.trans (below_drewN w0 1 |>.mono B0.size)
  have S0' := cells5 V0
  refine wp_region_held_drew (S := (fun W => W.cell? ⟨w.heap.size, 0, none⟩ = some (.int .i64 kind) ∧ W.cell? ⟨w.heap.size, 1, none⟩ = some (.int .i64 cond) ∧ W.cell? ⟨w.heap.size, 2, none⟩ = some (.slice A1 args.length c1) ∧ W.cell? ⟨w.heap.size, 3, none⟩ = some (.slice A2 edges.length c2) ∧ W.cell? ⟨w.heap.size, 4, none⟩ = some (.int .i64 trap))) (by kernel_rfl) ?_ (fun hHeld0 => ?_)
  · first | assumption | go_keep
  refine tk (i := 0) (oi := ⟨some 14, .move (.tmp 3), 9, "stext.go:98", #[], none⟩) rfl ?_; (try simp only [Act.put, List.setIfInBounds_toArray, List.set_cons_succ, List.set_cons_zero])
  refine tk (i := 1) (oi := ⟨some 15, .fieldAddr 42 (.tmp 1) 1, 0, "stext.go:98", #[], none⟩) rfl ?_; (try simp only [Act.put, List.setIfInBounds_toArray, List.set_cons_succ, List.set_cons_zero])
  refine tk (i := 2) (oi := ⟨some 16, .load 3 (.tmp 15), 3, "stext.go:98", #[⟨1, .data⟩], none⟩) rfl ?_; (try simp only [Act.put, List.setIfInBounds_toArray, List.set_cons_succ, List.set_cons_zero])
  refine tk (i := 4) (oi := ⟨some 18, .fieldAddr 42 (.tmp 1) 2, 0, "stext.go:98", #[], none⟩) rfl ?_; (try simp only [Act.put, List.setIfInBounds_toArray, List.set_cons_succ, List.set_cons_zero])
  refine tk (i := 5) (oi := ⟨some 19, .load 37 (.tmp 18), 37, "stext.go:98", #[⟨4, .data⟩], none⟩) rfl ?_; (try simp only [Act.put, List.setIfInBounds_toArray, List.set_cons_succ, List.set_cons_zero])
  refine wpAnyH_ready (rs := [3]) (by kernel_rfl) (by simp) ?_
  refine AllReadyH.cons (o := ⟨some 17, .call { callee := .value (.func 53), args := #[.const (.string { data := #[111, 110] }), .tmp 16], argTypes := #[9, 3] }, 9, "stext.go:98", #[⟨2, .data⟩], none⟩) rfl (fun K hK => ?_) AllReadyH.nil
  go_simp
  (refine (HON.out _ (G.below B0)).mono ?_; rintro e w1 ⟨rfl, hb1⟩; have V1 := V0.below hb1 V0.lt; have S1 := cells5 V1; have B1 := B0.trans (hb1.mono B0.size))
  (try dsimp only)
  refine hK.out _ _ ?_ (fun hHeld1 => ?_)
  · first | trivial | ((try dsimp only); first | assumption | trivial | go_keep)
  clear hK K hHeld0
  (try simp only [Act.put, List.setIfInBounds_toArray, List.set_cons_succ, List.set_cons_zero])
  refine wpAnyH_ready (rs := [6]) (by kernel_rfl) (by simp) ?_
  refine AllReadyH.cons (o := ⟨some 20, .call { callee := .value (.func 54), args := #[.const (.string { data := #[111, 102] }), .tmp 19], argTypes := #[9, 37] }, 9, "stext.go:98", #[⟨5, .data⟩, ⟨3, .chain⟩], none⟩) rfl (fun K hK => ?_) AllReadyH.nil
  go_simp
  (refine (HOF.out _ (h1.on B1) (G.below B1)).mono ?_; rintro e w2 ⟨rfl, hb2⟩; have V2 := V1.below hb2 V1.lt; have S2 := cells5 V2; have B2 := B1.trans (hb2.mono B1.size))
  (try dsimp only)
  refine hK.out _ _ ?_ (fun hHeld2 => ?_)
  · first | trivial | ((try dsimp only); first | assumption | trivial | go_keep)
  clear hK K hHeld1
  (try simp only [Act.put, List.setIfInBounds_toArray, List.set_cons_succ, List.set_cons_zero])
  refine wpAnyH_ready (rs := [7]) (by kernel_rfl) (by simp) ?_
  refine AllReadyH.cons (o := ⟨some 21, .buildSlice 54 4 #[(0, .const (.string { data := #[101, 110, 100] })), (1, .tmp 14), (2, .tmp 17), (3, .tmp 20)], 54, "stext.go:98", #[⟨0, .data⟩, ⟨3, .data⟩, ⟨6, .data⟩], none⟩) rfl (fun K hK => ?_) AllReadyH.nil
  go_simp
  (have V3 := V2.alloc (.cells #[.string ⟨#[101, 110, 100]⟩, .string ⟨KW.toArray⟩, .string ⟨TO.toArray⟩, .string ⟨TF.toArray⟩] 9); have S3 := cells5 V3)
  (try dsimp only)
  refine hK.out _ _ ?_ (fun hHeld3 => ?_)
  · first | trivial | ((try dsimp only); first | assumption | trivial | go_keep)
  clear hK K hHeld2
  (try simp only [Act.put, List.setIfInBounds_toArray, List.set_cons_succ, List.set_cons_zero])
  refine wpAnyH_ready (rs := [8]) (by kernel_rfl) (by simp) ?_
  refine AllReadyH.cons (o := ⟨some 22, .call { callee := .value (.func 18), args := #[.tmp 21], argTypes := #[54] }, 9, "stext.go:98", #[⟨7, .data⟩, ⟨6, .chain⟩], none⟩) rfl (fun K hK => ?_) AllReadyH.nil
  go_simp
  (refine (HJ0.out _ _ (block_rds encS_len rfl (heap_alloc_new w2 _))).mono ?_; rintro e w4 ⟨rfl, hb4⟩; have V4 := V3.below hb4 V3.lt; have S4 := cells5 V4; have B4 := B2.trans ((((Below.refl _ w2).alloc (Nat.le_refl _) _).trans (hb4.mono (by simp))).mono B2.size))
  (try dsimp only)
  refine hK.out _ _ ?_ (fun hHeld4 => ?_)
  · first | trivial | ((try dsimp only); first | assumption | trivial | go_keep)
  clear hK K hHeld3
  (try simp only [Act.put, List.setIfInBounds_toArray, List.set_cons_succ, List.set_cons_zero])
  refine tk (i := 9) (oi := ⟨some 5, .assign (.tmp 22), 9, "stext.go:98", #[⟨8, .data⟩, ⟨8, .chain⟩, ⟨0, .phase⟩, ⟨1, .phase⟩, ⟨2, .phase⟩, ⟨3, .phase⟩, ⟨4, .phase⟩, ⟨5, .phase⟩, ⟨6, .phase⟩, ⟨7, .phase⟩, ⟨8, .phase⟩], none⟩) rfl ?_; (try simp only [Act.put, List.setIfInBounds_toArray, List.set_cons_succ, List.set_cons_zero])
  refine wpAnyH_done (by kernel_rfl) ?_ _
  go_upto_region 3 with fail
  refine at_code (F := fun W => Var W w.heap.size #[.int .i64 kind, .int .i64 cond, .slice A1 args.length c1, .slice A2 edges.length c2, .int .i64 trap] 42 ∧ Below w.heap.size w W) ⟨V4, B4⟩ ?_
  clear V4 B4
  rintro wx ⟨VX, BX⟩
  have y0 := VX.cells 0; have y1 := VX.cells 1; have y2 := VX.cells 2; have y3 := VX.cells 3; have y4 := VX.cells 4
  go_wp2
  go_loopw [5, 26] (fun sv iv wr => ∃ i : Nat, iv = .int .i64 (i : Int) ∧ i ≤ edges.length ∧ sv = .string ⟨(St.finGo F0 (edges.take i)).toArray⟩ ∧ Var wr w.heap.size #[.int .i64 kind, .int .i64 cond, .slice A1 args.length c1, .slice A2 edges.length c2, .int .i64 trap] 42 ∧ Below w.heap.size w wr) (fun _ iv _ => edges.length - (intOf iv).toNat)
  case atStart => exact ⟨0, rfl, by omega, by first | rfl | simp [St.finGo], VX, BX⟩
  case round =>
    clear y0 y1 y2 y3 y4
    obtain ⟨i, rfl, hi, rfl, VR, BR⟩ := hrel
    by_cases hia : i < edges.length
    · have hk := Below.keep BR S
      obtain ⟨g, o, rfl, hsg, hg, he⟩ := (RdT.keep (fun g o x hs hx => EdgeAt.keep hk BR.size g o x hs hx) BR.size h2).get hia
      have hst : St.finGo F0 (edges.take (i + 1)) = St.join [St.finGo F0 (edges.take i), [116, 111], Lib.itoa edges[i].tgt, St.row edges[i].args] := by rw [List.take_succ_eq_append_getElem hia, St.finGo_snoc]
      have hok := HZ2.out edges[i] (List.getElem_mem _)
      have hs1 := HGL.out i
      obtain ⟨⟨tgt, eargs⟩, hev⟩ : ∃ e, edges[i] = e := ⟨_, rfl⟩
      rw [hev] at he hok hst
      obtain ⟨f0, Ae, ce, f1, hz⟩ := he
      obtain ⟨ok1, ok2, ok3⟩ := hok
      dsimp only at f0 f1 hz ok1 ok2 ok3 hst
      have HI := Lib.hid (fun W (G : Glob W) => itoa_any tgt ok1.1 ok1.2 W G.tab)
      have hil := St.itoa_len ok1
      have HR := Lib.hid (fun W (h : RdS W W.heap.size Ae 1 encZ eargs) (G : Glob W) => srow_any Ae ce _ eargs rfl (by omega) ok3 W h G)
      have hrl := St.row_len ok3
      obtain ⟨s, hs⟩ : ∃ y, St.finGo F0 (edges.take i) = y := ⟨_, rfl⟩
      rw [hs] at hst hs1 ⊢
      obtain ⟨TI, hti⟩ : ∃ y, Lib.itoa tgt = y := ⟨_, rfl⟩
      rw [hti] at HI hil hst
      obtain ⟨TR, htr⟩ : ∃ y, St.row eargs = y := ⟨_, rfl⟩
      rw [htr] at HR hrl hst
      have HJ := Lib.hid (fun W A (h : RdS W W.heap.size A 1 encS [s, [116, 111], TI, TR]) => sjoin_any A 4 4 [s, [116, 111], TI, TR] rfl (by omega) (by intro x hx; simp at hx; rcases hx with rfl | rfl | rfl | rfl <;> (try simp) <;> omega) W h)
      rw [← hst] at HJ
      have hza := hz.rds
      have x0 : (i : Int) < (edges.length : Int) := by omega
      have x2 : (0 : Int) ≤ (i : Int) := by omega
      clear hst hti htr hs hil hrl hev ok3 ok1 hs1 hz hk
      go_upto_region 6 with fail
      refine at_code (F := fun W => Var W wr.heap.size #[.int .i64 tgt, .slice Ae eargs.length ce] 50 ∧ Var W w.heap.size #[.int .i64 kind, .int .i64 cond, .slice A1 args.length c1, .slice (some ⟨g, o, none⟩) edges.length c2, .int .i64 trap] 42 ∧ Below w.heap.size w W ∧ RdS W W.heap.size Ae 1 encZ eargs) ⟨Var.new wr _ _, VR.alloc _, BR.alloc BR.size _, hza.on ((Below.refl _ wr).alloc (Nat.le_refl _) _)⟩ ?_
      obtain ⟨K2, hK2⟩ : ∃ K, wr.heap.size = K := ⟨_, rfl⟩
      simp only [hK2]
      clear VR BR hza f0 f1 hg
      clear hK2
      rintro w0 ⟨V0, U0, B0, hza⟩
      have S0 := cells2 V0
      replace V0 : Var w0.drew _ _ _ := V0
      replace U0 : Var w0.drew _ _ _ := U0
      replace hza : RdS w0.drew w0.drew.heap.size Ae 1 encZ eargs := hza
      replace B0 : Below w.heap.size w w0.drew := B0.trans (below_drewN w0 1 |>.mono B0.size)
      have S0' := cells2 V0
      refine wp_region_held_drew (S := (fun W => W.cell? ⟨K2, 0, none⟩ = some (.int .i64 tgt) ∧ W.cell? ⟨K2, 1, none⟩ = some (.slice Ae eargs.length ce))) (by kernel_rfl) ?_ (fun hHeld0 => ?_)
      · first | assumption | go_keep
      refine tk (i := 0) (oi := ⟨some 30, .move (.tmp 5), 9, "stext.go:100", #[], none⟩) rfl ?_; (try simp only [Act.put, List.setIfInBounds_toArray, List.set_cons_succ, List.set_cons_zero])
      refine tk (i := 1) (oi := ⟨some 31, .fieldAddr 50 (.tmp 7) 0, 0, "stext.go:100", #[], none⟩) rfl ?_; (try simp only [Act.put, List.setIfInBounds_toArray, List.set_cons_succ, List.set_cons_zero])
      refine tk (i := 2) (oi := ⟨some 32, .load 3 (.tmp 31), 3, "stext.go:100", #[⟨1, .data⟩], none⟩) rfl ?_; (try simp only [Act.put, List.setIfInBounds_toArray, List.set_cons_succ, List.set_cons_zero])
      refine tk (i := 4) (oi := ⟨some 34, .fieldAddr 50 (.tmp 7) 1, 0, "stext.go:100", #[], none⟩) rfl ?_; (try simp only [Act.put, List.setIfInBounds_toArray, List.set_cons_succ, List.set_cons_zero])
      refine tk (i := 5) (oi := ⟨some 35, .load 37 (.tmp 34), 37, "stext.go:100", #[⟨4, .data⟩], none⟩) rfl ?_; (try simp only [Act.put, List.setIfInBounds_toArray, List.set_cons_succ, List.set_cons_zero])
      refine wpAnyH_ready (rs := [3]) (by kernel_rfl) (by simp) ?_
      refine AllReadyH.cons (o := ⟨some 33, .call { callee := .value (.func 50), args := #[.tmp 32], argTypes := #[3] }, 9, "stext.go:100", #[⟨2, .data⟩], none⟩) rfl (fun K hK => ?_) AllReadyH.nil
      go_simp
      (refine (HI.out _ (G.below B0)).mono ?_; rintro e w1 ⟨rfl, hb1⟩; have V1 := V0.below hb1 V0.lt; have S1 := cells2 V1; have U1 := U0.below hb1 U0.lt; have B1 := B0.trans (hb1.mono B0.size))
      (try dsimp only)
      refine hK.out _ _ ?_ (fun hHeld1 => ?_)
      · first | trivial | ((try dsimp only); first | assumption | trivial | go_keep)
      clear hK K hHeld0
      (try simp only [Act.put, List.setIfInBounds_toArray, List.set_cons_succ, List.set_cons_zero])
      refine wpAnyH_ready (rs := [6]) (by kernel_rfl) (by simp) ?_
      refine AllReadyH.cons (o := ⟨some 36, .call { callee := .value (.func 19), args := #[.tmp 35], argTypes := #[37] }, 9, "stext.go:100", #[⟨5, .data⟩, ⟨3, .chain⟩], none⟩) rfl (fun K hK => ?_) AllReadyH.nil
      go_simp
      (refine (HR.out _ (hza.on hb1) (G.below B1)).mono ?_; rintro e w2 ⟨rfl, hb2⟩; have V2 := V1.below hb2 V1.lt; have S2 := cells2 V2; have U2 := U1.below hb2 U1.lt; have B2 := B1.trans (hb2.mono B1.size))
      (try dsimp only)
      refine hK.out _ _ ?_ (fun hHeld2 => ?_)
      · first | trivial | ((try dsimp only); first | assumption | trivial | go_keep)
      clear hK K hHeld1
      (try simp only [Act.put, List.setIfInBounds_toArray, List.set_cons_succ, List.set_cons_zero])
      refine wpAnyH_ready (rs := [7]) (by kernel_rfl) (by simp) ?_
      refine AllReadyH.cons (o := ⟨some 37, .buildSlice 54 4 #[(0, .tmp 30), (1, .const (.string { data := #[116, 111] })), (2, .tmp 33), (3, .tmp 36)], 54, "stext.go:100", #[⟨0, .data⟩, ⟨3, .data⟩, ⟨6, .data⟩], none⟩) rfl (fun K hK => ?_) AllReadyH.nil
      go_simp
      (have V3 := V2.alloc (.cells #[.string ⟨s.toArray⟩, .string ⟨#[116, 111]⟩, .string ⟨TI.toArray⟩, .string ⟨TR.toArray⟩] 9); have S3 := cells2 V3)
      (try dsimp only)
      refine hK.out _ _ ?_ (fun hHeld3 => ?_)
      · first | trivial | ((try dsimp only); first | assumption | trivial | go_keep)
      clear hK K hHeld2
      (try simp only [Act.put, List.setIfInBounds_toArray, List.set_cons_succ, List.set_cons_zero])
      refine wpAnyH_ready (rs := [8]) (by kernel_rfl) (by simp) ?_
      refine AllReadyH.cons (o := ⟨some 38, .call { callee := .value (.func 18), args := #[.tmp 37], argTypes := #[54] }, 9, "stext.go:100", #[⟨7, .data⟩, ⟨6, .chain⟩], none⟩) rfl (fun K hK => ?_) AllReadyH.nil
      go_simp
      (refine (HJ.out _ _ (block_rds encS_len rfl (heap_alloc_new w2 _))).mono ?_; rintro e w4 ⟨rfl, hb4⟩; have V4 := V3.below hb4 V3.lt; have S4 := cells2 V4; have U4 := (U2.alloc (.cells #[.string ⟨s.toArray⟩, .string ⟨#[116, 111]⟩, .string ⟨TI.toArray⟩, .string ⟨TR.toArray⟩] 9)).below hb4 (U2.alloc _).lt; have B4 := B2.trans ((((Below.refl _ w2).alloc (Nat.le_refl _) _).trans (hb4.mono (by simp))).mono B2.size))
      (try dsimp only)
      refine hK.out _ _ ?_ (fun hHeld4 => ?_)
      · first | trivial | ((try dsimp only); first | assumption | trivial | go_keep)
      clear hK K hHeld3
      (try simp only [Act.put, List.setIfInBounds_toArray, List.set_cons_succ, List.set_cons_zero])
      refine tk (i := 9) (oi := ⟨some 5, .assign (.tmp 38), 9, "stext.go:100", #[⟨8, .data⟩, ⟨8, .chain⟩, ⟨0, .phase⟩, ⟨1, .phase⟩, ⟨2, .phase⟩, ⟨3, .phase⟩, ⟨4, .phase⟩, ⟨5, .phase⟩, ⟨6, .phase⟩, ⟨7, .phase⟩, ⟨8, .phase⟩], none⟩) rfl ?_; (try simp only [Act.put, List.setIfInBounds_toArray, List.set_cons_succ, List.set_cons_zero])
      refine wpAnyH_done (by kernel_rfl) ?_ _
      have U4H := Lib.hid U4
      have B4H := Lib.hid B4
      clear U4 B4 V0 V1 V2 V3 V4 U0 U1 U2 B0 B1 B2 S0 S0' S1 S2 S3 S4 hb1 hb2 hb4 hza
      go_wp2
      go_roundw
      case rel => exact ⟨i + 1, by go_num, by omega, rfl, U4H.out, B4H.out⟩
      case measure => simp [intOf]; omega
    · have hi2 : i = edges.length := by omega
      subst hi2
      have hs1 := HGL.out edges.length
      rw [List.take_length] at hs1 ⊢
      obtain ⟨s, hs⟩ : ∃ y, St.finGo F0 edges = y := ⟨_, rfl⟩
      rw [hs] at hs1 ⊢
      have HJ := Lib.hid (fun W A (h : RdS W W.heap.size A 1 encS [s, TT]) => sjoin_any A 2 2 [s, TT] rfl (by omega) (by intro x hx; simp at hx htl; rcases hx with rfl | rfl <;> omega) W h)
      have hjl := St.joinF_len [s, TT]
      obtain ⟨J, hj⟩ : ∃ y, St.join [s, TT] = y := ⟨_, rfl⟩
      rw [hj] at HJ hjl
      have HJE : Hid (St.join [St.finGo F0 edges, TT] = J) := Lib.hid (by rw [hs, hj])
      have hjl2 : J.length ≤ 1000000 := by simp at hjl htl; omega
      have x5 : ¬ 9223372036854775807 < 2 + J.length := by omega
      have HE1 := Lib.hid (cat2 [32, 32] J)
      have y0 := VR.cells 0; have y1 := VR.cells 1; have y2 := VR.cells 2; have y3 := VR.cells 3; have y4 := VR.cells 4
      clear hjl hj hs hs1
      go_wp2_with (first
        | (go_at_call 53; refine (HTR.out _ (G.below BR)).mono ?_; rintro e w1 ⟨rfl, hb1⟩; have B1 := BR.trans (hb1.mono BR.size))
        | (go_at_call 18; refine (HJ.out _ _ (block_rds encS_len rfl (heap_alloc_new w1 _))).mono ?_; rintro e w2 ⟨rfl, hb2⟩; have B2 := B1.trans ((((Below.refl _ w1).alloc (Nat.le_refl _) _).trans (hb2.mono (by simp))).mono B1.size)))
      go_ret
      refine ⟨?_, B2⟩
      rw [HJE.out]
      exact congrArg (fun s => Ending.returned (Value.string s)) HE1.out
end Go.Proofs.YtmhmpobjjhbklaaGreatDoor
