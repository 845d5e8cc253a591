/-
  Layer 40, the program: the line of an instruction. (Printed by gen_st4.py.)
-/
import Derived.Test.YtmhmpobjjhbklaaGreatDoorTk
import Derived.Test.YtmhmpobjjhbklaaGreatDoorSt3
import Derived.Deep.RegionHeld3
import Derived.Deep.CutBlock
set_option linter.unusedVariables false
set_option linter.unusedSimpArgs false
namespace Go.Proofs.YtmhmpobjjhbklaaGreatDoor
open Go.RowKit
open St (InR)

def insV (x : St.Ins) (A1 : Option Addr) (c1 : Nat) (A2 : Option Addr) (c2 : Nat) : Value := .agg #[.int .i64 x.kind, .int .i64 x.op, .int .i64 x.a, .int .i64 x.b, .int .u64 (x.n : Int), .slice A1 x.args.length c1, .slice A2 x.outs.length c2]
theorem cells7 {W : World} {K : Nat} {t : TypeId} {v0 v1 v2 v3 v4 v5 v6 : Value} (h : Var W K #[v0, v1, v2, v3, v4, v5, v6] t) : W.cell? ⟨K, 0, none⟩ = some v0 ∧ W.cell? ⟨K, 1, none⟩ = some v1 ∧ W.cell? ⟨K, 2, none⟩ = some v2 ∧ W.cell? ⟨K, 3, none⟩ = some v3 ∧ W.cell? ⟨K, 4, none⟩ = some v4 ∧ W.cell? ⟨K, 5, none⟩ = some v5 ∧ W.cell? ⟨K, 6, none⟩ = some v6 :=
  ⟨h.cells 0, h.cells 1, h.cells 2, h.cells 3, h.cells 4, h.cells 5, h.cells 6⟩
theorem RdS.onB {α : Type} {w w' : World} {A : Option Addr} {k : Nat} {enc : α → List Value} {l : List α} (h : RdS w w.heap.size A k enc l) (hb : Below w.heap.size w w') : RdS w' w'.heap.size A k enc l := h.on hb
theorem cat2 (a b : List UInt8) : (ByteArray.mk a.toArray ++ ByteArray.mk b.toArray) = ByteArray.mk (a ++ b).toArray := bytes_cat a b

set_option maxHeartbeats 16000000 in
set_option maxRecDepth 100000 in
theorem sins_any (x : St.Ins) (hx : x.Ok) (A1 : Option Addr) (c1 : Nat) (A2 : Option Addr) (c2 : Nat) (w : World) (h1 : RdS w w.heap.size A1 1 encZ x.args) (h2 : RdS w w.heap.size A2 1 encZ x.outs) (G : Glob w) :
    Calls Tryz.prog 20 #[insV x A1 c1 A2 c2] w fun e w' => e = .returned (.string ⟨(St.insO x).toArray⟩) ∧ Below w.heap.size w w' := by
  unfold insV
  obtain ⟨kind, op, a, b, n, args, outs⟩ := x
  obtain ⟨xa, xb, xn, ⟨xl1, xz1⟩, xl2, xz2⟩ := hx
  dsimp only at *
  unfold St.insO
  dsimp only
  have HK := Lib.hid (fun W (G : Glob W) => sword_any St.kindT (by decide) St.kindW rfl kind W G)
  have hkl := St.word_len St.kindW_len kind
  have HA := Lib.hid (fun W (G : Glob W) => snumber_any [97] (by simp) a xa W G)
  have hal := St.number_len (l := [97]) xa
  have HBn := Lib.hid (fun W (G : Glob W) => snumber_any [98] (by simp) b xb W G)
  have hbl := St.number_len (l := [98]) xb
  have HOF := Lib.hid (fun W (h : RdS W W.heap.size A1 1 encZ args) (G : Glob W) => slist_any [111, 102] (by simp) A1 c1 _ args rfl xl1 xz1 W h G)
  have hfl := St.list_len (s := [111, 102]) xz1
  have HTO := Lib.hid (fun W (h : RdS W W.heap.size A2 1 encZ outs) (G : Glob W) => slist_any [116, 111] (by simp) A2 c2 _ outs rfl xl2 xz2 W h G)
  have htl := St.list_len (s := [116, 111]) xz2
  have hol := St.opT_len op
  have hnl := St.nT_len xn
  have HON := Lib.hid (fun W (G : Glob W) => oname_in op W G)
  have honl := St.name_len op
  have HFU := Lib.hid (fun W (G : Glob W) => formatUint_any n xn W G.tab)
  have hfu := St.dec20 xn
  have hjl := St.joinF_len [St.kindw kind, St.opT op, St.number [97] a, St.number [98] b, St.nT n, St.list [111, 102] args, St.list [116, 111] outs]
  have hot : St.opT op = if op = 0 then [] else [111, 112, 32] ++ Opc.name op := rfl
  have hnt : St.nT n = if n = 0 then [] else [110, 32] ++ Lib.decDigits n := rfl
  rw [show St.kindT = [112, 97, 114, 97, 109, 32, 99, 111, 110, 115, 116, 32, 110, 117, 108, 108, 32, 117, 110, 32, 98, 105, 110, 32, 115, 101, 108, 101, 99, 116, 32, 108, 111, 97, 100, 32, 115, 116, 111, 114, 101, 32, 99, 104, 101, 99, 107, 32, 115, 105, 122, 101, 32, 103, 114, 111, 119, 32, 103, 108, 111, 98, 97, 108, 32, 115, 101, 116, 32, 99, 97, 108, 108, 32, 99, 97, 108, 108, 105, 110, 32, 114, 101, 102, 32, 105, 115, 110, 117, 108, 108, 32, 98, 117, 108, 107, 32, 116, 97, 98, 32, 102, 117, 101, 108] from rfl] at HK
  unfold St.kindw at *
  obtain ⟨⟨KW, kb⟩, hkw⟩ : ∃ y, St.word St.kindW kind = y := ⟨_, rfl⟩
  rw [hkw] at HK hkl hjl ⊢
  obtain ⟨TA, hta⟩ : ∃ y, St.number [97] a = y := ⟨_, rfl⟩
  rw [hta] at HA hal hjl ⊢
  obtain ⟨TB, htb⟩ : ∃ y, St.number [98] b = y := ⟨_, rfl⟩
  rw [htb] at HBn hbl hjl ⊢
  obtain ⟨TF, htf⟩ : ∃ y, St.list [111, 102] args = y := ⟨_, rfl⟩
  rw [htf] at HOF hfl hjl ⊢
  obtain ⟨TO, hto⟩ : ∃ y, St.list [116, 111] outs = y := ⟨_, rfl⟩
  rw [hto] at HTO htl hjl ⊢
  obtain ⟨OT, hot2⟩ : ∃ y, St.opT op = y := ⟨_, rfl⟩
  rw [hot2] at hol hjl hot ⊢
  obtain ⟨TN, hnt2⟩ : ∃ y, St.nT n = y := ⟨_, rfl⟩
  rw [hnt2] at hnl hjl hnt ⊢
  obtain ⟨ON, hon⟩ : ∃ y, Opc.name op = y := ⟨_, rfl⟩
  rw [hon] at HON honl hot
  obtain ⟨ND, hnd⟩ : ∃ y, Lib.decDigits n = y := ⟨_, rfl⟩
  rw [hnd] at HFU hfu hnt
  have HJ := Lib.hid (fun W A (h : RdS W W.heap.size A 1 encS [KW, OT, TA, TB, TN, TF, TO]) => sjoin_any A 7 7 [KW, OT, TA, TB, TN, TF, TO] rfl (by omega) (by intro s hs; simp at hs hkl hal hbl hfl htl; rcases hs with rfl | rfl | rfl | rfl | rfl | rfl | rfl <;> omega) W h)
  obtain ⟨J, hj⟩ : ∃ y, St.join [KW, OT, TA, TB, TN, TF, TO] = y := ⟨_, rfl⟩
  rw [hj] at HJ hjl ⊢
  have hjl2 : J.length ≤ 1000000 := by simp at hjl hkl hal hbl hfl htl; omega
  have x5 : ¬ 9223372036854775807 < 2 + J.length := by omega
  have x6 : ¬ 9223372036854775807 < 3 + ON.length := by omega
  have x7 : ¬ 9223372036854775807 < 2 + ND.length := by omega
  have HE1 := Lib.hid (cat2 [32, 32] J)
  have HE2 := Lib.hid (cat2 [111, 112, 32] ON)
  have HE3 := Lib.hid (cat2 [110, 32] ND)
  clear hj hnd hon hnt2 hot2 hto htf htb hta hkw hkl hal hbl hfl htl hol hnl hjl xz1 xz2 xa xb
  have body : ∀ (W : World) (K : Nat) (B0 : Below w.heap.size w W) (V0 : Var W K #[.int .i64 kind, .int .i64 op, .int .i64 a, .int .i64 b, .int .u64 (n : Int), .slice A1 args.length c1, .slice A2 outs.length c2] 48), True := fun _ _ _ _ => trivial
  clear body
  have O1 : op = 0 ∧ OT = [] ∧ (op != 0) = false ∨ op ≠ 0 ∧ OT = [111, 112, 32] ++ ON ∧ (op != 0) = true := by
    by_cases h : op = 0
    · exact .inl ⟨h, by rw [hot, if_pos h], by simp [h]⟩
    · exact .inr ⟨h, by rw [hot, if_neg h], by simp [h]⟩
  have N1 : n = 0 ∧ TN = [] ∧ ((n : Int) != 0) = false ∧ (n != 0) = false ∨ n ≠ 0 ∧ TN = [110, 32] ++ ND ∧ ((n : Int) != 0) = true ∧ (n != 0) = true := by
    by_cases h : n = 0
    · exact .inl ⟨h, by rw [hnt, if_pos h], by simp [h], by simp [h]⟩
    · exact .inr ⟨h, by rw [hnt, if_neg h], by simp [h], by simp [h]⟩
  clear hot hnt
  rcases O1 with ⟨o1, o2, o3⟩ | ⟨o1, o2, o3⟩ <;> rcases N1 with ⟨n1, n2, n3, n4⟩ | ⟨n1, n2, n3, n4⟩
  · have HO2 := Lib.hid o2
    have HN2 := Lib.hid n2
    have HO1 := Lib.hid o1
    have HN1 := Lib.hid n1
    clear o1 o2 n1 n2
    go_enter Tryz.func20, Tryz.ntmps20
    go_upto_region 2 with (first
      | (go_at_call 46; refine (HK.out _ (G.below ((Below.refl _ _).alloc (Nat.le_refl _) _))).mono ?_; rintro e w1 ⟨rfl, hb⟩; have hv := (Var.new w #[.int .i64 kind, .int .i64 op, .int .i64 a, .int .i64 b, .int .u64 (n : Int), .slice A1 args.length c1, .slice A2 outs.length c2] 48).below hb (by simp); have hB := below_one hb; clear hb))
    refine at_code (F := fun W => Var W w.heap.size #[.int .i64 kind, .int .i64 op, .int .i64 a, .int .i64 b, .int .u64 (n : Int), .slice A1 args.length c1, .slice A2 outs.length c2] 48 ∧ Below w.heap.size w W) ⟨hv, hB⟩ ?_
    clear hv hB
    rintro w0 ⟨V0, B0⟩
    have S0 := cells7 V0
    obtain ⟨y0, y1, y2, y3, y4, y5, y6⟩ := S0
    go_upto_region 7 with (first
      | (go_at_call 51; refine (HON.out _ (G.below B0)).mono ?_; rintro e w1 ⟨rfl, hb⟩; have V0 := V0.below hb V0.lt; have B0 := B0.trans (hb.mono B0.size); have yy := cells7 V0; obtain ⟨y0, y1, y2, y3, y4, y5, y6⟩ := yy)
      | (go_at_call 52; refine (HFU.out _ (G.below B0)).mono ?_; rintro e w2 ⟨rfl, hb⟩; have V0 := V0.below hb V0.lt; have B0 := B0.trans (hb.mono B0.size); have yy := cells7 V0; obtain ⟨y0, y1, y2, y3, y4, y5, y6⟩ := yy))
    refine at_code (F := fun W => Var W w.heap.size #[.int .i64 kind, .int .i64 op, .int .i64 a, .int .i64 b, .int .u64 (n : Int), .slice A1 args.length c1, .slice A2 outs.length c2] 48 ∧ Below w.heap.size w W) ⟨V0, B0⟩ ?_
    clear V0 B0 y0 y1 y2 y3 y4 y5 y6
    (try clear hb)
    rintro w0 ⟨V0, B0⟩
    rw [HO2.out] at HJ
    rw [HN2.out] at HJ
    have S0 := cells7 V0
    replace V0 : Var w0.drew _ _ _ := V0
    replace B0 : Below w.heap.size w w0.drew := B0.trans (below_drewN w0 1 |>.mono B0.size)
    have S0' := cells7 V0
    refine wp_region_held_drew (S := (fun W => W.cell? ⟨w.heap.size, 0, none⟩ = some (.int .i64 kind) ∧ W.cell? ⟨w.heap.size, 1, none⟩ = some (.int .i64 op) ∧ W.cell? ⟨w.heap.size, 2, none⟩ = some (.int .i64 a) ∧ W.cell? ⟨w.heap.size, 3, none⟩ = some (.int .i64 b) ∧ W.cell? ⟨w.heap.size, 4, none⟩ = some (.int .u64 (n : Int)) ∧ W.cell? ⟨w.heap.size, 5, none⟩ = some (.slice A1 args.length c1) ∧ W.cell? ⟨w.heap.size, 6, none⟩ = some (.slice A2 outs.length c2))) (by kernel_rfl) ?_ (fun hHeld0 => ?_)
    · first | assumption | go_keep
    refine tk (i := 0) (oi := ⟨some 27, .move (.tmp 3), 9, "stext.go:92", #[], none⟩) rfl ?_; (try simp only [Act.put, List.setIfInBounds_toArray, List.set_cons_succ, List.set_cons_zero])
    refine tk (i := 1) (oi := ⟨some 28, .move (.tmp 5), 9, "stext.go:92", #[], none⟩) rfl ?_; (try simp only [Act.put, List.setIfInBounds_toArray, List.set_cons_succ, List.set_cons_zero])
    refine tk (i := 2) (oi := ⟨some 29, .fieldAddr 48 (.tmp 1) 2, 0, "stext.go:92", #[], none⟩) rfl ?_; (try simp only [Act.put, List.setIfInBounds_toArray, List.set_cons_succ, List.set_cons_zero])
    refine tk (i := 3) (oi := ⟨some 30, .load 3 (.tmp 29), 3, "stext.go:92", #[⟨2, .data⟩], none⟩) rfl ?_; (try simp only [Act.put, List.setIfInBounds_toArray, List.set_cons_succ, List.set_cons_zero])
    refine tk (i := 5) (oi := ⟨some 32, .fieldAddr 48 (.tmp 1) 3, 0, "stext.go:92", #[], none⟩) rfl ?_; (try simp only [Act.put, List.setIfInBounds_toArray, List.set_cons_succ, List.set_cons_zero])
    refine tk (i := 6) (oi := ⟨some 33, .load 3 (.tmp 32), 3, "stext.go:92", #[⟨5, .data⟩], none⟩) rfl ?_; (try simp only [Act.put, List.setIfInBounds_toArray, List.set_cons_succ, List.set_cons_zero])
    refine tk (i := 8) (oi := ⟨some 35, .move (.tmp 6), 9, "stext.go:92", #[], none⟩) rfl ?_; (try simp only [Act.put, List.setIfInBounds_toArray, List.set_cons_succ, List.set_cons_zero])
    refine tk (i := 9) (oi := ⟨some 36, .fieldAddr 48 (.tmp 1) 5, 0, "stext.go:92", #[], none⟩) rfl ?_; (try simp only [Act.put, List.setIfInBounds_toArray, List.set_cons_succ, List.set_cons_zero])
    refine tk (i := 10) (oi := ⟨some 37, .load 37 (.tmp 36), 37, "stext.go:92", #[⟨9, .data⟩], none⟩) rfl ?_; (try simp only [Act.put, List.setIfInBounds_toArray, List.set_cons_succ, List.set_cons_zero])
    refine tk (i := 12) (oi := ⟨some 39, .fieldAddr 48 (.tmp 1) 6, 0, "stext.go:92", #[], none⟩) rfl ?_; (try simp only [Act.put, List.setIfInBounds_toArray, List.set_cons_succ, List.set_cons_zero])
    refine tk (i := 13) (oi := ⟨some 40, .load 37 (.tmp 39), 37, "stext.go:92", #[⟨12, .data⟩], none⟩) rfl ?_; (try simp only [Act.put, List.setIfInBounds_toArray, List.set_cons_succ, List.set_cons_zero])
    refine wpAnyH_ready (rs := [4]) (by kernel_rfl) (by simp) ?_
    refine AllReadyH.cons (o := ⟨some 31, .call { callee := .value (.func 53), args := #[.const (.string { data := #[97] }), .tmp 30], argTypes := #[9, 3] }, 9, "stext.go:92", #[⟨3, .data⟩], none⟩) rfl (fun K hK => ?_) AllReadyH.nil
    go_simp
    (refine (HA.out _ (G.below B0)).mono ?_; rintro e w1 ⟨rfl, hb1⟩; have V1 := V0.below hb1 V0.lt; have S1 := cells7 V1; have B1 := B0.trans (hb1.mono B0.size))
    (try dsimp only)
    refine hK.out _ _ ?_ (fun hHeld1 => ?_)
    · first | trivial | ((try dsimp only); first | assumption | trivial | go_keep)
    clear hK K hHeld0
    (try simp only [Act.put, List.setIfInBounds_toArray, List.set_cons_succ, List.set_cons_zero])
    refine wpAnyH_ready (rs := [7]) (by kernel_rfl) (by simp) ?_
    refine AllReadyH.cons (o := ⟨some 34, .call { callee := .value (.func 53), args := #[.const (.string { data := #[98] }), .tmp 33], argTypes := #[9, 3] }, 9, "stext.go:92", #[⟨6, .data⟩, ⟨4, .chain⟩], none⟩) rfl (fun K hK => ?_) AllReadyH.nil
    go_simp
    (refine (HBn.out _ (G.below B1)).mono ?_; rintro e w2 ⟨rfl, hb2⟩; have V2 := V1.below hb2 V1.lt; have S2 := cells7 V2; have B2 := B1.trans (hb2.mono B1.size))
    (try dsimp only)
    refine hK.out _ _ ?_ (fun hHeld2 => ?_)
    · first | trivial | ((try dsimp only); first | assumption | trivial | go_keep)
    clear hK K hHeld1
    (try simp only [Act.put, List.setIfInBounds_toArray, List.set_cons_succ, List.set_cons_zero])
    refine wpAnyH_ready (rs := [11]) (by kernel_rfl) (by simp) ?_
    refine AllReadyH.cons (o := ⟨some 38, .call { callee := .value (.func 54), args := #[.const (.string { data := #[111, 102] }), .tmp 37], argTypes := #[9, 37] }, 9, "stext.go:92", #[⟨10, .data⟩, ⟨7, .chain⟩], none⟩) rfl (fun K hK => ?_) AllReadyH.nil
    go_simp
    (refine (HOF.out _ (h1.on B2) (G.below B2)).mono ?_; rintro e w3 ⟨rfl, hb3⟩; have V3 := V2.below hb3 V2.lt; have S3 := cells7 V3; have B3 := B2.trans (hb3.mono B2.size))
    (try dsimp only)
    refine hK.out _ _ ?_ (fun hHeld3 => ?_)
    · first | trivial | ((try dsimp only); first | assumption | trivial | go_keep)
    clear hK K hHeld2
    (try simp only [Act.put, List.setIfInBounds_toArray, List.set_cons_succ, List.set_cons_zero])
    refine wpAnyH_ready (rs := [14]) (by kernel_rfl) (by simp) ?_
    refine AllReadyH.cons (o := ⟨some 41, .call { callee := .value (.func 54), args := #[.const (.string { data := #[116, 111] }), .tmp 40], argTypes := #[9, 37] }, 9, "stext.go:92", #[⟨13, .data⟩, ⟨11, .chain⟩], none⟩) rfl (fun K hK => ?_) AllReadyH.nil
    go_simp
    (refine (HTO.out _ (h2.on B3) (G.below B3)).mono ?_; rintro e w4 ⟨rfl, hb4⟩; have V4 := V3.below hb4 V3.lt; have S4 := cells7 V4; have B4 := B3.trans (hb4.mono B3.size))
    (try dsimp only)
    refine hK.out _ _ ?_ (fun hHeld4 => ?_)
    · first | trivial | ((try dsimp only); first | assumption | trivial | go_keep)
    clear hK K hHeld3
    (try simp only [Act.put, List.setIfInBounds_toArray, List.set_cons_succ, List.set_cons_zero])
    refine wpAnyH_ready (rs := [15]) (by kernel_rfl) (by simp) ?_
    refine AllReadyH.cons (o := ⟨some 42, .buildSlice 54 7 #[(0, .tmp 27), (1, .tmp 28), (2, .tmp 31), (3, .tmp 34), (4, .tmp 35), (5, .tmp 38), (6, .tmp 41)], 54, "stext.go:92", #[⟨0, .data⟩, ⟨1, .data⟩, ⟨4, .data⟩, ⟨7, .data⟩, ⟨8, .data⟩, ⟨11, .data⟩, ⟨14, .data⟩], none⟩) rfl (fun K hK => ?_) AllReadyH.nil
    go_simp
    (have V5 := V4.alloc (.cells #[.string ⟨KW.toArray⟩, .string ⟨#[]⟩, .string ⟨TA.toArray⟩, .string ⟨TB.toArray⟩, .string ⟨#[]⟩, .string ⟨TF.toArray⟩, .string ⟨TO.toArray⟩] 9); have S5 := cells7 V5)
    (try dsimp only)
    refine hK.out _ _ ?_ (fun hHeld5 => ?_)
    · first | trivial | ((try dsimp only); first | assumption | trivial | go_keep)
    clear hK K hHeld4
    (try simp only [Act.put, List.setIfInBounds_toArray, List.set_cons_succ, List.set_cons_zero])
    refine wpAnyH_ready (rs := [16]) (by kernel_rfl) (by simp) ?_
    refine AllReadyH.cons (o := ⟨some 43, .call { callee := .value (.func 18), args := #[.tmp 42], argTypes := #[54] }, 9, "stext.go:92", #[⟨15, .data⟩, ⟨14, .chain⟩], none⟩) rfl (fun K hK => ?_) AllReadyH.nil
    go_simp
    (refine (HJ.out _ _ (block_rds encS_len rfl (heap_alloc_new w4 _))).mono ?_; rintro e w6 ⟨rfl, hb6⟩; have V6 := V5.below hb6 V5.lt; have S6 := cells7 V6; have B6 := B4.trans ((((Below.refl _ w4).alloc (Nat.le_refl _) _).trans (hb6.mono (by simp))).mono B4.size))
    (try dsimp only)
    refine hK.out _ _ ?_ (fun hHeld6 => ?_)
    · first | trivial | ((try dsimp only); first | assumption | trivial | go_keep)
    clear hK K hHeld5
    (try simp only [Act.put, List.setIfInBounds_toArray, List.set_cons_succ, List.set_cons_zero])
    refine tk (i := 17) (oi := ⟨some 44, .binOp .add 9 (.const (.string { data := #[32, 32] })) (.tmp 43) 9, 9, "stext.go:92", #[⟨16, .data⟩], none⟩) rfl ?_; (try simp only [Act.put, List.setIfInBounds_toArray, List.set_cons_succ, List.set_cons_zero])
    refine tk (i := 18) (oi := ⟨some 2, .assign (.tmp 44), 9, "stext.go:92", #[⟨17, .data⟩, ⟨16, .chain⟩, ⟨0, .phase⟩, ⟨1, .phase⟩, ⟨2, .phase⟩, ⟨3, .phase⟩, ⟨4, .phase⟩, ⟨5, .phase⟩, ⟨6, .phase⟩, ⟨7, .phase⟩, ⟨8, .phase⟩, ⟨9, .phase⟩, ⟨10, .phase⟩, ⟨11, .phase⟩, ⟨12, .phase⟩, ⟨13, .phase⟩, ⟨14, .phase⟩, ⟨15, .phase⟩, ⟨16, .phase⟩, ⟨17, .phase⟩], none⟩) rfl ?_; (try simp only [Act.put, List.setIfInBounds_toArray, List.set_cons_succ, List.set_cons_zero])
    refine wpAnyH_done (by kernel_rfl) ?_ _
    go_wp2
    go_ret
    exact ⟨congrArg (fun s => Ending.returned (Value.string s)) HE1.out, B6⟩
  · have HO2 := Lib.hid o2
    have HN2 := Lib.hid n2
    have HO1 := Lib.hid o1
    have HN1 := Lib.hid n1
    clear o1 o2 n1 n2
    go_enter Tryz.func20, Tryz.ntmps20
    go_upto_region 2 with (first
      | (go_at_call 46; refine (HK.out _ (G.below ((Below.refl _ _).alloc (Nat.le_refl _) _))).mono ?_; rintro e w1 ⟨rfl, hb⟩; have hv := (Var.new w #[.int .i64 kind, .int .i64 op, .int .i64 a, .int .i64 b, .int .u64 (n : Int), .slice A1 args.length c1, .slice A2 outs.length c2] 48).below hb (by simp); have hB := below_one hb; clear hb))
    refine at_code (F := fun W => Var W w.heap.size #[.int .i64 kind, .int .i64 op, .int .i64 a, .int .i64 b, .int .u64 (n : Int), .slice A1 args.length c1, .slice A2 outs.length c2] 48 ∧ Below w.heap.size w W) ⟨hv, hB⟩ ?_
    clear hv hB
    rintro w0 ⟨V0, B0⟩
    have S0 := cells7 V0
    obtain ⟨y0, y1, y2, y3, y4, y5, y6⟩ := S0
    go_upto_region 7 with (first
      | (go_at_call 51; refine (HON.out _ (G.below B0)).mono ?_; rintro e w1 ⟨rfl, hb⟩; have V0 := V0.below hb V0.lt; have B0 := B0.trans (hb.mono B0.size); have yy := cells7 V0; obtain ⟨y0, y1, y2, y3, y4, y5, y6⟩ := yy)
      | (go_at_call 52; refine (HFU.out _ (G.below B0)).mono ?_; rintro e w2 ⟨rfl, hb⟩; have V0 := V0.below hb V0.lt; have B0 := B0.trans (hb.mono B0.size); have yy := cells7 V0; obtain ⟨y0, y1, y2, y3, y4, y5, y6⟩ := yy))
    refine at_code (F := fun W => Var W w.heap.size #[.int .i64 kind, .int .i64 op, .int .i64 a, .int .i64 b, .int .u64 (n : Int), .slice A1 args.length c1, .slice A2 outs.length c2] 48 ∧ Below w.heap.size w W) ⟨V0, B0⟩ ?_
    clear V0 B0 y0 y1 y2 y3 y4 y5 y6
    (try clear hb)
    rintro w0 ⟨V0, B0⟩
    rw [HO2.out] at HJ
    rw [HE3.out, ← HN2.out]
    have S0 := cells7 V0
    replace V0 : Var w0.drew _ _ _ := V0
    replace B0 : Below w.heap.size w w0.drew := B0.trans (below_drewN w0 1 |>.mono B0.size)
    have S0' := cells7 V0
    refine wp_region_held_drew (S := (fun W => W.cell? ⟨w.heap.size, 0, none⟩ = some (.int .i64 kind) ∧ W.cell? ⟨w.heap.size, 1, none⟩ = some (.int .i64 op) ∧ W.cell? ⟨w.heap.size, 2, none⟩ = some (.int .i64 a) ∧ W.cell? ⟨w.heap.size, 3, none⟩ = some (.int .i64 b) ∧ W.cell? ⟨w.heap.size, 4, none⟩ = some (.int .u64 (n : Int)) ∧ W.cell? ⟨w.heap.size, 5, none⟩ = some (.slice A1 args.length c1) ∧ W.cell? ⟨w.heap.size, 6, none⟩ = some (.slice A2 outs.length c2))) (by kernel_rfl) ?_ (fun hHeld0 => ?_)
    · first | assumption | go_keep
    refine tk (i := 0) (oi := ⟨some 27, .move (.tmp 3), 9, "stext.go:92", #[], none⟩) rfl ?_; (try simp only [Act.put, List.setIfInBounds_toArray, List.set_cons_succ, List.set_cons_zero])
    refine tk (i := 1) (oi := ⟨some 28, .move (.tmp 5), 9, "stext.go:92", #[], none⟩) rfl ?_; (try simp only [Act.put, List.setIfInBounds_toArray, List.set_cons_succ, List.set_cons_zero])
    refine tk (i := 2) (oi := ⟨some 29, .fieldAddr 48 (.tmp 1) 2, 0, "stext.go:92", #[], none⟩) rfl ?_; (try simp only [Act.put, List.setIfInBounds_toArray, List.set_cons_succ, List.set_cons_zero])
    refine tk (i := 3) (oi := ⟨some 30, .load 3 (.tmp 29), 3, "stext.go:92", #[⟨2, .data⟩], none⟩) rfl ?_; (try simp only [Act.put, List.setIfInBounds_toArray, List.set_cons_succ, List.set_cons_zero])
    refine tk (i := 5) (oi := ⟨some 32, .fieldAddr 48 (.tmp 1) 3, 0, "stext.go:92", #[], none⟩) rfl ?_; (try simp only [Act.put, List.setIfInBounds_toArray, List.set_cons_succ, List.set_cons_zero])
    refine tk (i := 6) (oi := ⟨some 33, .load 3 (.tmp 32), 3, "stext.go:92", #[⟨5, .data⟩], none⟩) rfl ?_; (try simp only [Act.put, List.setIfInBounds_toArray, List.set_cons_succ, List.set_cons_zero])
    refine tk (i := 8) (oi := ⟨some 35, .move (.tmp 6), 9, "stext.go:92", #[], none⟩) rfl ?_; (try simp only [Act.put, List.setIfInBounds_toArray, List.set_cons_succ, List.set_cons_zero])
    refine tk (i := 9) (oi := ⟨some 36, .fieldAddr 48 (.tmp 1) 5, 0, "stext.go:92", #[], none⟩) rfl ?_; (try simp only [Act.put, List.setIfInBounds_toArray, List.set_cons_succ, List.set_cons_zero])
    refine tk (i := 10) (oi := ⟨some 37, .load 37 (.tmp 36), 37, "stext.go:92", #[⟨9, .data⟩], none⟩) rfl ?_; (try simp only [Act.put, List.setIfInBounds_toArray, List.set_cons_succ, List.set_cons_zero])
    refine tk (i := 12) (oi := ⟨some 39, .fieldAddr 48 (.tmp 1) 6, 0, "stext.go:92", #[], none⟩) rfl ?_; (try simp only [Act.put, List.setIfInBounds_toArray, List.set_cons_succ, List.set_cons_zero])
    refine tk (i := 13) (oi := ⟨some 40, .load 37 (.tmp 39), 37, "stext.go:92", #[⟨12, .data⟩], none⟩) rfl ?_; (try simp only [Act.put, List.setIfInBounds_toArray, List.set_cons_succ, List.set_cons_zero])
    refine wpAnyH_ready (rs := [4]) (by kernel_rfl) (by simp) ?_
    refine AllReadyH.cons (o := ⟨some 31, .call { callee := .value (.func 53), args := #[.const (.string { data := #[97] }), .tmp 30], argTypes := #[9, 3] }, 9, "stext.go:92", #[⟨3, .data⟩], none⟩) rfl (fun K hK => ?_) AllReadyH.nil
    go_simp
    (refine (HA.out _ (G.below B0)).mono ?_; rintro e w1 ⟨rfl, hb1⟩; have V1 := V0.below hb1 V0.lt; have S1 := cells7 V1; have B1 := B0.trans (hb1.mono B0.size))
    (try dsimp only)
    refine hK.out _ _ ?_ (fun hHeld1 => ?_)
    · first | trivial | ((try dsimp only); first | assumption | trivial | go_keep)
    clear hK K hHeld0
    (try simp only [Act.put, List.setIfInBounds_toArray, List.set_cons_succ, List.set_cons_zero])
    refine wpAnyH_ready (rs := [7]) (by kernel_rfl) (by simp) ?_
    refine AllReadyH.cons (o := ⟨some 34, .call { callee := .value (.func 53), args := #[.const (.string { data := #[98] }), .tmp 33], argTypes := #[9, 3] }, 9, "stext.go:92", #[⟨6, .data⟩, ⟨4, .chain⟩], none⟩) rfl (fun K hK => ?_) AllReadyH.nil
    go_simp
    (refine (HBn.out _ (G.below B1)).mono ?_; rintro e w2 ⟨rfl, hb2⟩; have V2 := V1.below hb2 V1.lt; have S2 := cells7 V2; have B2 := B1.trans (hb2.mono B1.size))
    (try dsimp only)
    refine hK.out _ _ ?_ (fun hHeld2 => ?_)
    · first | trivial | ((try dsimp only); first | assumption | trivial | go_keep)
    clear hK K hHeld1
    (try simp only [Act.put, List.setIfInBounds_toArray, List.set_cons_succ, List.set_cons_zero])
    refine wpAnyH_ready (rs := [11]) (by kernel_rfl) (by simp) ?_
    refine AllReadyH.cons (o := ⟨some 38, .call { callee := .value (.func 54), args := #[.const (.string { data := #[111, 102] }), .tmp 37], argTypes := #[9, 37] }, 9, "stext.go:92", #[⟨10, .data⟩, ⟨7, .chain⟩], none⟩) rfl (fun K hK => ?_) AllReadyH.nil
    go_simp
    (refine (HOF.out _ (h1.on B2) (G.below B2)).mono ?_; rintro e w3 ⟨rfl, hb3⟩; have V3 := V2.below hb3 V2.lt; have S3 := cells7 V3; have B3 := B2.trans (hb3.mono B2.size))
    (try dsimp only)
    refine hK.out _ _ ?_ (fun hHeld3 => ?_)
    · first | trivial | ((try dsimp only); first | assumption | trivial | go_keep)
    clear hK K hHeld2
    (try simp only [Act.put, List.setIfInBounds_toArray, List.set_cons_succ, List.set_cons_zero])
    refine wpAnyH_ready (rs := [14]) (by kernel_rfl) (by simp) ?_
    refine AllReadyH.cons (o := ⟨some 41, .call { callee := .value (.func 54), args := #[.const (.string { data := #[116, 111] }), .tmp 40], argTypes := #[9, 37] }, 9, "stext.go:92", #[⟨13, .data⟩, ⟨11, .chain⟩], none⟩) rfl (fun K hK => ?_) AllReadyH.nil
    go_simp
    (refine (HTO.out _ (h2.on B3) (G.below B3)).mono ?_; rintro e w4 ⟨rfl, hb4⟩; have V4 := V3.below hb4 V3.lt; have S4 := cells7 V4; have B4 := B3.trans (hb4.mono B3.size))
    (try dsimp only)
    refine hK.out _ _ ?_ (fun hHeld4 => ?_)
    · first | trivial | ((try dsimp only); first | assumption | trivial | go_keep)
    clear hK K hHeld3
    (try simp only [Act.put, List.setIfInBounds_toArray, List.set_cons_succ, List.set_cons_zero])
    refine wpAnyH_ready (rs := [15]) (by kernel_rfl) (by simp) ?_
    refine AllReadyH.cons (o := ⟨some 42, .buildSlice 54 7 #[(0, .tmp 27), (1, .tmp 28), (2, .tmp 31), (3, .tmp 34), (4, .tmp 35), (5, .tmp 38), (6, .tmp 41)], 54, "stext.go:92", #[⟨0, .data⟩, ⟨1, .data⟩, ⟨4, .data⟩, ⟨7, .data⟩, ⟨8, .data⟩, ⟨11, .data⟩, ⟨14, .data⟩], none⟩) rfl (fun K hK => ?_) AllReadyH.nil
    go_simp
    (have V5 := V4.alloc (.cells #[.string ⟨KW.toArray⟩, .string ⟨#[]⟩, .string ⟨TA.toArray⟩, .string ⟨TB.toArray⟩, .string ⟨TN.toArray⟩, .string ⟨TF.toArray⟩, .string ⟨TO.toArray⟩] 9); have S5 := cells7 V5)
    (try dsimp only)
    refine hK.out _ _ ?_ (fun hHeld5 => ?_)
    · first | trivial | ((try dsimp only); first | assumption | trivial | go_keep)
    clear hK K hHeld4
    (try simp only [Act.put, List.setIfInBounds_toArray, List.set_cons_succ, List.set_cons_zero])
    refine wpAnyH_ready (rs := [16]) (by kernel_rfl) (by simp) ?_
    refine AllReadyH.cons (o := ⟨some 43, .call { callee := .value (.func 18), args := #[.tmp 42], argTypes := #[54] }, 9, "stext.go:92", #[⟨15, .data⟩, ⟨14, .chain⟩], none⟩) rfl (fun K hK => ?_) AllReadyH.nil
    go_simp
    (refine (HJ.out _ _ (block_rds encS_len rfl (heap_alloc_new w4 _))).mono ?_; rintro e w6 ⟨rfl, hb6⟩; have V6 := V5.below hb6 V5.lt; have S6 := cells7 V6; have B6 := B4.trans ((((Below.refl _ w4).alloc (Nat.le_refl _) _).trans (hb6.mono (by simp))).mono B4.size))
    (try dsimp only)
    refine hK.out _ _ ?_ (fun hHeld6 => ?_)
    · first | trivial | ((try dsimp only); first | assumption | trivial | go_keep)
    clear hK K hHeld5
    (try simp only [Act.put, List.setIfInBounds_toArray, List.set_cons_succ, List.set_cons_zero])
    refine tk (i := 17) (oi := ⟨some 44, .binOp .add 9 (.const (.string { data := #[32, 32] })) (.tmp 43) 9, 9, "stext.go:92", #[⟨16, .data⟩], none⟩) rfl ?_; (try simp only [Act.put, List.setIfInBounds_toArray, List.set_cons_succ, List.set_cons_zero])
    refine tk (i := 18) (oi := ⟨some 2, .assign (.tmp 44), 9, "stext.go:92", #[⟨17, .data⟩, ⟨16, .chain⟩, ⟨0, .phase⟩, ⟨1, .phase⟩, ⟨2, .phase⟩, ⟨3, .phase⟩, ⟨4, .phase⟩, ⟨5, .phase⟩, ⟨6, .phase⟩, ⟨7, .phase⟩, ⟨8, .phase⟩, ⟨9, .phase⟩, ⟨10, .phase⟩, ⟨11, .phase⟩, ⟨12, .phase⟩, ⟨13, .phase⟩, ⟨14, .phase⟩, ⟨15, .phase⟩, ⟨16, .phase⟩, ⟨17, .phase⟩], none⟩) rfl ?_; (try simp only [Act.put, List.setIfInBounds_toArray, List.set_cons_succ, List.set_cons_zero])
    refine wpAnyH_done (by kernel_rfl) ?_ _
    go_wp2
    go_ret
    exact ⟨congrArg (fun s => Ending.returned (Value.string s)) HE1.out, B6⟩
  · have HO2 := Lib.hid o2
    have HN2 := Lib.hid n2
    have HO1 := Lib.hid o1
    have HN1 := Lib.hid n1
    clear o1 o2 n1 n2
    go_enter Tryz.func20, Tryz.ntmps20
    go_upto_region 2 with (first
      | (go_at_call 46; refine (HK.out _ (G.below ((Below.refl _ _).alloc (Nat.le_refl _) _))).mono ?_; rintro e w1 ⟨rfl, hb⟩; have hv := (Var.new w #[.int .i64 kind, .int .i64 op, .int .i64 a, .int .i64 b, .int .u64 (n : Int), .slice A1 args.length c1, .slice A2 outs.length c2] 48).below hb (by simp); have hB := below_one hb; clear hb))
    refine at_code (F := fun W => Var W w.heap.size #[.int .i64 kind, .int .i64 op, .int .i64 a, .int .i64 b, .int .u64 (n : Int), .slice A1 args.length c1, .slice A2 outs.length c2] 48 ∧ Below w.heap.size w W) ⟨hv, hB⟩ ?_
    clear hv hB
    rintro w0 ⟨V0, B0⟩
    have S0 := cells7 V0
    obtain ⟨y0, y1, y2, y3, y4, y5, y6⟩ := S0
    go_upto_region 7 with (first
      | (go_at_call 51; refine (HON.out _ (G.below B0)).mono ?_; rintro e w1 ⟨rfl, hb⟩; have V0 := V0.below hb V0.lt; have B0 := B0.trans (hb.mono B0.size); have yy := cells7 V0; obtain ⟨y0, y1, y2, y3, y4, y5, y6⟩ := yy)
      | (go_at_call 52; refine (HFU.out _ (G.below B0)).mono ?_; rintro e w2 ⟨rfl, hb⟩; have V0 := V0.below hb V0.lt; have B0 := B0.trans (hb.mono B0.size); have yy := cells7 V0; obtain ⟨y0, y1, y2, y3, y4, y5, y6⟩ := yy))
    refine at_code (F := fun W => Var W w.heap.size #[.int .i64 kind, .int .i64 op, .int .i64 a, .int .i64 b, .int .u64 (n : Int), .slice A1 args.length c1, .slice A2 outs.length c2] 48 ∧ Below w.heap.size w W) ⟨V0, B0⟩ ?_
    clear V0 B0 y0 y1 y2 y3 y4 y5 y6
    (try clear hb)
    rintro w0 ⟨V0, B0⟩
    rw [HE2.out, ← HO2.out]
    rw [HN2.out] at HJ
    have S0 := cells7 V0
    replace V0 : Var w0.drew _ _ _ := V0
    replace B0 : Below w.heap.size w w0.drew := B0.trans (below_drewN w0 1 |>.mono B0.size)
    have S0' := cells7 V0
    refine wp_region_held_drew (S := (fun W => W.cell? ⟨w.heap.size, 0, none⟩ = some (.int .i64 kind) ∧ W.cell? ⟨w.heap.size, 1, none⟩ = some (.int .i64 op) ∧ W.cell? ⟨w.heap.size, 2, none⟩ = some (.int .i64 a) ∧ W.cell? ⟨w.heap.size, 3, none⟩ = some (.int .i64 b) ∧ W.cell? ⟨w.heap.size, 4, none⟩ = some (.int .u64 (n : Int)) ∧ W.cell? ⟨w.heap.size, 5, none⟩ = some (.slice A1 args.length c1) ∧ W.cell? ⟨w.heap.size, 6, none⟩ = some (.slice A2 outs.length c2))) (by kernel_rfl) ?_ (fun hHeld0 => ?_)
    · first | assumption | go_keep
    refine tk (i := 0) (oi := ⟨some 27, .move (.tmp 3), 9, "stext.go:92", #[], none⟩) rfl ?_; (try simp only [Act.put, List.setIfInBounds_toArray, List.set_cons_succ, List.set_cons_zero])
    refine tk (i := 1) (oi := ⟨some 28, .move (.tmp 5), 9, "stext.go:92", #[], none⟩) rfl ?_; (try simp only [Act.put, List.setIfInBounds_toArray, List.set_cons_succ, List.set_cons_zero])
    refine tk (i := 2) (oi := ⟨some 29, .fieldAddr 48 (.tmp 1) 2, 0, "stext.go:92", #[], none⟩) rfl ?_; (try simp only [Act.put, List.setIfInBounds_toArray, List.set_cons_succ, List.set_cons_zero])
    refine tk (i := 3) (oi := ⟨some 30, .load 3 (.tmp 29), 3, "stext.go:92", #[⟨2, .data⟩], none⟩) rfl ?_; (try simp only [Act.put, List.setIfInBounds_toArray, List.set_cons_succ, List.set_cons_zero])
    refine tk (i := 5) (oi := ⟨some 32, .fieldAddr 48 (.tmp 1) 3, 0, "stext.go:92", #[], none⟩) rfl ?_; (try simp only [Act.put, List.setIfInBounds_toArray, List.set_cons_succ, List.set_cons_zero])
    refine tk (i := 6) (oi := ⟨some 33, .load 3 (.tmp 32), 3, "stext.go:92", #[⟨5, .data⟩], none⟩) rfl ?_; (try simp only [Act.put, List.setIfInBounds_toArray, List.set_cons_succ, List.set_cons_zero])
    refine tk (i := 8) (oi := ⟨some 35, .move (.tmp 6), 9, "stext.go:92", #[], none⟩) rfl ?_; (try simp only [Act.put, List.setIfInBounds_toArray, List.set_cons_succ, List.set_cons_zero])
    refine tk (i := 9) (oi := ⟨some 36, .fieldAddr 48 (.tmp 1) 5, 0, "stext.go:92", #[], none⟩) rfl ?_; (try simp only [Act.put, List.setIfInBounds_toArray, List.set_cons_succ, List.set_cons_zero])
    refine tk (i := 10) (oi := ⟨some 37, .load 37 (.tmp 36), 37, "stext.go:92", #[⟨9, .data⟩], none⟩) rfl ?_; (try simp only [Act.put, List.setIfInBounds_toArray, List.set_cons_succ, List.set_cons_zero])
    refine tk (i := 12) (oi := ⟨some 39, .fieldAddr 48 (.tmp 1) 6, 0, "stext.go:92", #[], none⟩) rfl ?_; (try simp only [Act.put, List.setIfInBounds_toArray, List.set_cons_succ, List.set_cons_zero])
    refine tk (i := 13) (oi := ⟨some 40, .load 37 (.tmp 39), 37, "stext.go:92", #[⟨12, .data⟩], none⟩) rfl ?_; (try simp only [Act.put, List.setIfInBounds_toArray, List.set_cons_succ, List.set_cons_zero])
    refine wpAnyH_ready (rs := [4]) (by kernel_rfl) (by simp) ?_
    refine AllReadyH.cons (o := ⟨some 31, .call { callee := .value (.func 53), args := #[.const (.string { data := #[97] }), .tmp 30], argTypes := #[9, 3] }, 9, "stext.go:92", #[⟨3, .data⟩], none⟩) rfl (fun K hK => ?_) AllReadyH.nil
    go_simp
    (refine (HA.out _ (G.below B0)).mono ?_; rintro e w1 ⟨rfl, hb1⟩; have V1 := V0.below hb1 V0.lt; have S1 := cells7 V1; have B1 := B0.trans (hb1.mono B0.size))
    (try dsimp only)
    refine hK.out _ _ ?_ (fun hHeld1 => ?_)
    · first | trivial | ((try dsimp only); first | assumption | trivial | go_keep)
    clear hK K hHeld0
    (try simp only [Act.put, List.setIfInBounds_toArray, List.set_cons_succ, List.set_cons_zero])
    refine wpAnyH_ready (rs := [7]) (by kernel_rfl) (by simp) ?_
    refine AllReadyH.cons (o := ⟨some 34, .call { callee := .value (.func 53), args := #[.const (.string { data := #[98] }), .tmp 33], argTypes := #[9, 3] }, 9, "stext.go:92", #[⟨6, .data⟩, ⟨4, .chain⟩], none⟩) rfl (fun K hK => ?_) AllReadyH.nil
    go_simp
    (refine (HBn.out _ (G.below B1)).mono ?_; rintro e w2 ⟨rfl, hb2⟩; have V2 := V1.below hb2 V1.lt; have S2 := cells7 V2; have B2 := B1.trans (hb2.mono B1.size))
    (try dsimp only)
    refine hK.out _ _ ?_ (fun hHeld2 => ?_)
    · first | trivial | ((try dsimp only); first | assumption | trivial | go_keep)
    clear hK K hHeld1
    (try simp only [Act.put, List.setIfInBounds_toArray, List.set_cons_succ, List.set_cons_zero])
    refine wpAnyH_ready (rs := [11]) (by kernel_rfl) (by simp) ?_
    refine AllReadyH.cons (o := ⟨some 38, .call { callee := .value (.func 54), args := #[.const (.string { data := #[111, 102] }), .tmp 37], argTypes := #[9, 37] }, 9, "stext.go:92", #[⟨10, .data⟩, ⟨7, .chain⟩], none⟩) rfl (fun K hK => ?_) AllReadyH.nil
    go_simp
    (refine (HOF.out _ (h1.on B2) (G.below B2)).mono ?_; rintro e w3 ⟨rfl, hb3⟩; have V3 := V2.below hb3 V2.lt; have S3 := cells7 V3; have B3 := B2.trans (hb3.mono B2.size))
    (try dsimp only)
    refine hK.out _ _ ?_ (fun hHeld3 => ?_)
    · first | trivial | ((try dsimp only); first | assumption | trivial | go_keep)
    clear hK K hHeld2
    (try simp only [Act.put, List.setIfInBounds_toArray, List.set_cons_succ, List.set_cons_zero])
    refine wpAnyH_ready (rs := [14]) (by kernel_rfl) (by simp) ?_
    refine AllReadyH.cons (o := ⟨some 41, .call { callee := .value (.func 54), args := #[.const (.string { data := #[116, 111] }), .tmp 40], argTypes := #[9, 37] }, 9, "stext.go:92", #[⟨13, .data⟩, ⟨11, .chain⟩], none⟩) rfl (fun K hK => ?_) AllReadyH.nil
    go_simp
    (refine (HTO.out _ (h2.on B3) (G.below B3)).mono ?_; rintro e w4 ⟨rfl, hb4⟩; have V4 := V3.below hb4 V3.lt; have S4 := cells7 V4; have B4 := B3.trans (hb4.mono B3.size))
    (try dsimp only)
    refine hK.out _ _ ?_ (fun hHeld4 => ?_)
    · first | trivial | ((try dsimp only); first | assumption | trivial | go_keep)
    clear hK K hHeld3
    (try simp only [Act.put, List.setIfInBounds_toArray, List.set_cons_succ, List.set_cons_zero])
    refine wpAnyH_ready (rs := [15]) (by kernel_rfl) (by simp) ?_
    refine AllReadyH.cons (o := ⟨some 42, .buildSlice 54 7 #[(0, .tmp 27), (1, .tmp 28), (2, .tmp 31), (3, .tmp 34), (4, .tmp 35), (5, .tmp 38), (6, .tmp 41)], 54, "stext.go:92", #[⟨0, .data⟩, ⟨1, .data⟩, ⟨4, .data⟩, ⟨7, .data⟩, ⟨8, .data⟩, ⟨11, .data⟩, ⟨14, .data⟩], none⟩) rfl (fun K hK => ?_) AllReadyH.nil
    go_simp
    (have V5 := V4.alloc (.cells #[.string ⟨KW.toArray⟩, .string ⟨OT.toArray⟩, .string ⟨TA.toArray⟩, .string ⟨TB.toArray⟩, .string ⟨#[]⟩, .string ⟨TF.toArray⟩, .string ⟨TO.toArray⟩] 9); have S5 := cells7 V5)
    (try dsimp only)
    refine hK.out _ _ ?_ (fun hHeld5 => ?_)
    · first | trivial | ((try dsimp only); first | assumption | trivial | go_keep)
    clear hK K hHeld4
    (try simp only [Act.put, List.setIfInBounds_toArray, List.set_cons_succ, List.set_cons_zero])
    refine wpAnyH_ready (rs := [16]) (by kernel_rfl) (by simp) ?_
    refine AllReadyH.cons (o := ⟨some 43, .call { callee := .value (.func 18), args := #[.tmp 42], argTypes := #[54] }, 9, "stext.go:92", #[⟨15, .data⟩, ⟨14, .chain⟩], none⟩) rfl (fun K hK => ?_) AllReadyH.nil
    go_simp
    (refine (HJ.out _ _ (block_rds encS_len rfl (heap_alloc_new w4 _))).mono ?_; rintro e w6 ⟨rfl, hb6⟩; have V6 := V5.below hb6 V5.lt; have S6 := cells7 V6; have B6 := B4.trans ((((Below.refl _ w4).alloc (Nat.le_refl _) _).trans (hb6.mono (by simp))).mono B4.size))
    (try dsimp only)
    refine hK.out _ _ ?_ (fun hHeld6 => ?_)
    · first | trivial | ((try dsimp only); first | assumption | trivial | go_keep)
    clear hK K hHeld5
    (try simp only [Act.put, List.setIfInBounds_toArray, List.set_cons_succ, List.set_cons_zero])
    refine tk (i := 17) (oi := ⟨some 44, .binOp .add 9 (.const (.string { data := #[32, 32] })) (.tmp 43) 9, 9, "stext.go:92", #[⟨16, .data⟩], none⟩) rfl ?_; (try simp only [Act.put, List.setIfInBounds_toArray, List.set_cons_succ, List.set_cons_zero])
    refine tk (i := 18) (oi := ⟨some 2, .assign (.tmp 44), 9, "stext.go:92", #[⟨17, .data⟩, ⟨16, .chain⟩, ⟨0, .phase⟩, ⟨1, .phase⟩, ⟨2, .phase⟩, ⟨3, .phase⟩, ⟨4, .phase⟩, ⟨5, .phase⟩, ⟨6, .phase⟩, ⟨7, .phase⟩, ⟨8, .phase⟩, ⟨9, .phase⟩, ⟨10, .phase⟩, ⟨11, .phase⟩, ⟨12, .phase⟩, ⟨13, .phase⟩, ⟨14, .phase⟩, ⟨15, .phase⟩, ⟨16, .phase⟩, ⟨17, .phase⟩], none⟩) rfl ?_; (try simp only [Act.put, List.setIfInBounds_toArray, List.set_cons_succ, List.set_cons_zero])
    refine wpAnyH_done (by kernel_rfl) ?_ _
    go_wp2
    go_ret
    exact ⟨congrArg (fun s => Ending.returned (Value.string s)) HE1.out, B6⟩
  · have HO2 := Lib.hid o2
    have HN2 := Lib.hid n2
    have HO1 := Lib.hid o1
    have HN1 := Lib.hid n1
    clear o1 o2 n1 n2
    go_enter Tryz.func20, Tryz.ntmps20
    go_upto_region 2 with (first
      | (go_at_call 46; refine (HK.out _ (G.below ((Below.refl _ _).alloc (Nat.le_refl _) _))).mono ?_; rintro e w1 ⟨rfl, hb⟩; have hv := (Var.new w #[.int .i64 kind, .int .i64 op, .int .i64 a, .int .i64 b, .int .u64 (n : Int), .slice A1 args.length c1, .slice A2 outs.length c2] 48).below hb (by simp); have hB := below_one hb; clear hb))
    refine at_code (F := fun W => Var W w.heap.size #[.int .i64 kind, .int .i64 op, .int .i64 a, .int .i64 b, .int .u64 (n : Int), .slice A1 args.length c1, .slice A2 outs.length c2] 48 ∧ Below w.heap.size w W) ⟨hv, hB⟩ ?_
    clear hv hB
    rintro w0 ⟨V0, B0⟩
    have S0 := cells7 V0
    obtain ⟨y0, y1, y2, y3, y4, y5, y6⟩ := S0
    go_upto_region 7 with (first
      | (go_at_call 51; refine (HON.out _ (G.below B0)).mono ?_; rintro e w1 ⟨rfl, hb⟩; have V0 := V0.below hb V0.lt; have B0 := B0.trans (hb.mono B0.size); have yy := cells7 V0; obtain ⟨y0, y1, y2, y3, y4, y5, y6⟩ := yy)
      | (go_at_call 52; refine (HFU.out _ (G.below B0)).mono ?_; rintro e w2 ⟨rfl, hb⟩; have V0 := V0.below hb V0.lt; have B0 := B0.trans (hb.mono B0.size); have yy := cells7 V0; obtain ⟨y0, y1, y2, y3, y4, y5, y6⟩ := yy))
    refine at_code (F := fun W => Var W w.heap.size #[.int .i64 kind, .int .i64 op, .int .i64 a, .int .i64 b, .int .u64 (n : Int), .slice A1 args.length c1, .slice A2 outs.length c2] 48 ∧ Below w.heap.size w W) ⟨V0, B0⟩ ?_
    clear V0 B0 y0 y1 y2 y3 y4 y5 y6
    (try clear hb)
    rintro w0 ⟨V0, B0⟩
    rw [HE2.out, ← HO2.out]
    rw [HE3.out, ← HN2.out]
    have S0 := cells7 V0
    replace V0 : Var w0.drew _ _ _ := V0
    replace B0 : Below w.heap.size w w0.drew := B0.trans (below_drewN w0 1 |>.mono B0.size)
    have S0' := cells7 V0
    refine wp_region_held_drew (S := (fun W => W.cell? ⟨w.heap.size, 0, none⟩ = some (.int .i64 kind) ∧ W.cell? ⟨w.heap.size, 1, none⟩ = some (.int .i64 op) ∧ W.cell? ⟨w.heap.size, 2, none⟩ = some (.int .i64 a) ∧ W.cell? ⟨w.heap.size, 3, none⟩ = some (.int .i64 b) ∧ W.cell? ⟨w.heap.size, 4, none⟩ = some (.int .u64 (n : Int)) ∧ W.cell? ⟨w.heap.size, 5, none⟩ = some (.slice A1 args.length c1) ∧ W.cell? ⟨w.heap.size, 6, none⟩ = some (.slice A2 outs.length c2))) (by kernel_rfl) ?_ (fun hHeld0 => ?_)
    · first | assumption | go_keep
    refine tk (i := 0) (oi := ⟨some 27, .move (.tmp 3), 9, "stext.go:92", #[], none⟩) rfl ?_; (try simp only [Act.put, List.setIfInBounds_toArray, List.set_cons_succ, List.set_cons_zero])
    refine tk (i := 1) (oi := ⟨some 28, .move (.tmp 5), 9, "stext.go:92", #[], none⟩) rfl ?_; (try simp only [Act.put, List.setIfInBounds_toArray, List.set_cons_succ, List.set_cons_zero])
    refine tk (i := 2) (oi := ⟨some 29, .fieldAddr 48 (.tmp 1) 2, 0, "stext.go:92", #[], none⟩) rfl ?_; (try simp only [Act.put, List.setIfInBounds_toArray, List.set_cons_succ, List.set_cons_zero])
    refine tk (i := 3) (oi := ⟨some 30, .load 3 (.tmp 29), 3, "stext.go:92", #[⟨2, .data⟩], none⟩) rfl ?_; (try simp only [Act.put, List.setIfInBounds_toArray, List.set_cons_succ, List.set_cons_zero])
    refine tk (i := 5) (oi := ⟨some 32, .fieldAddr 48 (.tmp 1) 3, 0, "stext.go:92", #[], none⟩) rfl ?_; (try simp only [Act.put, List.setIfInBounds_toArray, List.set_cons_succ, List.set_cons_zero])
    refine tk (i := 6) (oi := ⟨some 33, .load 3 (.tmp 32), 3, "stext.go:92", #[⟨5, .data⟩], none⟩) rfl ?_; (try simp only [Act.put, List.setIfInBounds_toArray, List.set_cons_succ, List.set_cons_zero])
    refine tk (i := 8) (oi := ⟨some 35, .move (.tmp 6), 9, "stext.go:92", #[], none⟩) rfl ?_; (try simp only [Act.put, List.setIfInBounds_toArray, List.set_cons_succ, List.set_cons_zero])
    refine tk (i := 9) (oi := ⟨some 36, .fieldAddr 48 (.tmp 1) 5, 0, "stext.go:92", #[], none⟩) rfl ?_; (try simp only [Act.put, List.setIfInBounds_toArray, List.set_cons_succ, List.set_cons_zero])
    refine tk (i := 10) (oi := ⟨some 37, .load 37 (.tmp 36), 37, "stext.go:92", #[⟨9, .data⟩], none⟩) rfl ?_; (try simp only [Act.put, List.setIfInBounds_toArray, List.set_cons_succ, List.set_cons_zero])
    refine tk (i := 12) (oi := ⟨some 39, .fieldAddr 48 (.tmp 1) 6, 0, "stext.go:92", #[], none⟩) rfl ?_; (try simp only [Act.put, List.setIfInBounds_toArray, List.set_cons_succ, List.set_cons_zero])
    refine tk (i := 13) (oi := ⟨some 40, .load 37 (.tmp 39), 37, "stext.go:92", #[⟨12, .data⟩], none⟩) rfl ?_; (try simp only [Act.put, List.setIfInBounds_toArray, List.set_cons_succ, List.set_cons_zero])
    refine wpAnyH_ready (rs := [4]) (by kernel_rfl) (by simp) ?_
    refine AllReadyH.cons (o := ⟨some 31, .call { callee := .value (.func 53), args := #[.const (.string { data := #[97] }), .tmp 30], argTypes := #[9, 3] }, 9, "stext.go:92", #[⟨3, .data⟩], none⟩) rfl (fun K hK => ?_) AllReadyH.nil
    go_simp
    (refine (HA.out _ (G.below B0)).mono ?_; rintro e w1 ⟨rfl, hb1⟩; have V1 := V0.below hb1 V0.lt; have S1 := cells7 V1; have B1 := B0.trans (hb1.mono B0.size))
    (try dsimp only)
    refine hK.out _ _ ?_ (fun hHeld1 => ?_)
    · first | trivial | ((try dsimp only); first | assumption | trivial | go_keep)
    clear hK K hHeld0
    (try simp only [Act.put, List.setIfInBounds_toArray, List.set_cons_succ, List.set_cons_zero])
    refine wpAnyH_ready (rs := [7]) (by kernel_rfl) (by simp) ?_
    refine AllReadyH.cons (o := ⟨some 34, .call { callee := .value (.func 53), args := #[.const (.string { data := #[98] }), .tmp 33], argTypes := #[9, 3] }, 9, "stext.go:92", #[⟨6, .data⟩, ⟨4, .chain⟩], none⟩) rfl (fun K hK => ?_) AllReadyH.nil
    go_simp
    (refine (HBn.out _ (G.below B1)).mono ?_; rintro e w2 ⟨rfl, hb2⟩; have V2 := V1.below hb2 V1.lt; have S2 := cells7 V2; have B2 := B1.trans (hb2.mono B1.size))
    (try dsimp only)
    refine hK.out _ _ ?_ (fun hHeld2 => ?_)
    · first | trivial | ((try dsimp only); first | assumption | trivial | go_keep)
    clear hK K hHeld1
    (try simp only [Act.put, List.setIfInBounds_toArray, List.set_cons_succ, List.set_cons_zero])
    refine wpAnyH_ready (rs := [11]) (by kernel_rfl) (by simp) ?_
    refine AllReadyH.cons (o := ⟨some 38, .call { callee := .value (.func 54), args := #[.const (.string { data := #[111, 102] }), .tmp 37], argTypes := #[9, 37] }, 9, "stext.go:92", #[⟨10, .data⟩, ⟨7, .chain⟩], none⟩) rfl (fun K hK => ?_) AllReadyH.nil
    go_simp
    (refine (HOF.out _ (h1.on B2) (G.below B2)).mono ?_; rintro e w3 ⟨rfl, hb3⟩; have V3 := V2.below hb3 V2.lt; have S3 := cells7 V3; have B3 := B2.trans (hb3.mono B2.size))
    (try dsimp only)
    refine hK.out _ _ ?_ (fun hHeld3 => ?_)
    · first | trivial | ((try dsimp only); first | assumption | trivial | go_keep)
    clear hK K hHeld2
    (try simp only [Act.put, List.setIfInBounds_toArray, List.set_cons_succ, List.set_cons_zero])
    refine wpAnyH_ready (rs := [14]) (by kernel_rfl) (by simp) ?_
    refine AllReadyH.cons (o := ⟨some 41, .call { callee := .value (.func 54), args := #[.const (.string { data := #[116, 111] }), .tmp 40], argTypes := #[9, 37] }, 9, "stext.go:92", #[⟨13, .data⟩, ⟨11, .chain⟩], none⟩) rfl (fun K hK => ?_) AllReadyH.nil
    go_simp
    (refine (HTO.out _ (h2.on B3) (G.below B3)).mono ?_; rintro e w4 ⟨rfl, hb4⟩; have V4 := V3.below hb4 V3.lt; have S4 := cells7 V4; have B4 := B3.trans (hb4.mono B3.size))
    (try dsimp only)
    refine hK.out _ _ ?_ (fun hHeld4 => ?_)
    · first | trivial | ((try dsimp only); first | assumption | trivial | go_keep)
    clear hK K hHeld3
    (try simp only [Act.put, List.setIfInBounds_toArray, List.set_cons_succ, List.set_cons_zero])
    refine wpAnyH_ready (rs := [15]) (by kernel_rfl) (by simp) ?_
    refine AllReadyH.cons (o := ⟨some 42, .buildSlice 54 7 #[(0, .tmp 27), (1, .tmp 28), (2, .tmp 31), (3, .tmp 34), (4, .tmp 35), (5, .tmp 38), (6, .tmp 41)], 54, "stext.go:92", #[⟨0, .data⟩, ⟨1, .data⟩, ⟨4, .data⟩, ⟨7, .data⟩, ⟨8, .data⟩, ⟨11, .data⟩, ⟨14, .data⟩], none⟩) rfl (fun K hK => ?_) AllReadyH.nil
    go_simp
    (have V5 := V4.alloc (.cells #[.string ⟨KW.toArray⟩, .string ⟨OT.toArray⟩, .string ⟨TA.toArray⟩, .string ⟨TB.toArray⟩, .string ⟨TN.toArray⟩, .string ⟨TF.toArray⟩, .string ⟨TO.toArray⟩] 9); have S5 := cells7 V5)
    (try dsimp only)
    refine hK.out _ _ ?_ (fun hHeld5 => ?_)
    · first | trivial | ((try dsimp only); first | assumption | trivial | go_keep)
    clear hK K hHeld4
    (try simp only [Act.put, List.setIfInBounds_toArray, List.set_cons_succ, List.set_cons_zero])
    refine wpAnyH_ready (rs := [16]) (by kernel_rfl) (by simp) ?_
    refine AllReadyH.cons (o := ⟨some 43, .call { callee := .value (.func 18), args := #[.tmp 42], argTypes := #[54] }, 9, "stext.go:92", #[⟨15, .data⟩, ⟨14, .chain⟩], none⟩) rfl (fun K hK => ?_) AllReadyH.nil
    go_simp
    (refine (HJ.out _ _ (block_rds encS_len rfl (heap_alloc_new w4 _))).mono ?_; rintro e w6 ⟨rfl, hb6⟩; have V6 := V5.below hb6 V5.lt; have S6 := cells7 V6; have B6 := B4.trans ((((Below.refl _ w4).alloc (Nat.le_refl _) _).trans (hb6.mono (by simp))).mono B4.size))
    (try dsimp only)
    refine hK.out _ _ ?_ (fun hHeld6 => ?_)
    · first | trivial | ((try dsimp only); first | assumption | trivial | go_keep)
    clear hK K hHeld5
    (try simp only [Act.put, List.setIfInBounds_toArray, List.set_cons_succ, List.set_cons_zero])
    refine tk (i := 17) (oi := ⟨some 44, .binOp .add 9 (.const (.string { data := #[32, 32] })) (.tmp 43) 9, 9, "stext.go:92", #[⟨16, .data⟩], none⟩) rfl ?_; (try simp only [Act.put, List.setIfInBounds_toArray, List.set_cons_succ, List.set_cons_zero])
    refine tk (i := 18) (oi := ⟨some 2, .assign (.tmp 44), 9, "stext.go:92", #[⟨17, .data⟩, ⟨16, .chain⟩, ⟨0, .phase⟩, ⟨1, .phase⟩, ⟨2, .phase⟩, ⟨3, .phase⟩, ⟨4, .phase⟩, ⟨5, .phase⟩, ⟨6, .phase⟩, ⟨7, .phase⟩, ⟨8, .phase⟩, ⟨9, .phase⟩, ⟨10, .phase⟩, ⟨11, .phase⟩, ⟨12, .phase⟩, ⟨13, .phase⟩, ⟨14, .phase⟩, ⟨15, .phase⟩, ⟨16, .phase⟩, ⟨17, .phase⟩], none⟩) rfl ?_; (try simp only [Act.put, List.setIfInBounds_toArray, List.set_cons_succ, List.set_cons_zero])
    refine wpAnyH_done (by kernel_rfl) ?_ _
    go_wp2
    go_ret
    exact ⟨congrArg (fun s => Ending.returned (Value.string s)) HE1.out, B6⟩
end Go.Proofs.YtmhmpobjjhbklaaGreatDoor
