/-
  Layer 40, the reference: the line of an instruction. (Printed by gen_sr2.py.)
-/
import Derived.Test.YtmhmpobjjhbklaaGreatDoorTk
import Derived.Test.YtmhmpobjjhbklaaGreatDoorSR1
import Derived.Deep.QuietTactic
import Derived.BigQuiet
set_option linter.unusedVariables false
set_option linter.unusedSimpArgs false
namespace Go.Proofs.YtmhmpobjjhbklaaGreatDoor
namespace St
def opR (op : Int) : List UInt8 := if op = 0 then [] else [32, 111, 112, 32] ++ Opc.name op
def nR (n : Nat) : List UInt8 := if n = 0 then [] else [32, 110, 32] ++ Lib.decDigits n
def insR (x : Ins) : List UInt8 := [32, 32] ++ kindw x.kind ++ opR x.op ++ rfield [97] x.a ++ rfield [98] x.b ++ nR x.n ++ rlist [111, 102] x.args ++ rlist [116, 111] x.outs ++ [10]
end St
open Go.RowKit
open St (InR)
theorem quiet_of {P : Program} {f : FuncId} {args : Array Value} {v : Ending} (h : ∀ W : World, Calls P f args W fun e w' => e = v ∧ W = w') (W : World) (q : Nat) : Calls P f args (W.drewN q) fun e w' => e = v ∧ ∃ m, w' = W.drewN m :=
  (h _).mono fun e w' ⟨h1, h2⟩ => ⟨h1, q, h2.symm⟩
theorem quiet_of2 {P : Program} {f : FuncId} {args : Array Value} {v : Ending} {F : World → Prop} {W : World} (hF : ∀ q, F (W.drewN q)) (h : ∀ W : World, F W → Calls P f args W fun e w' => e = v ∧ W = w') (q : Nat) : Calls P f args (W.drewN q) fun e w' => e = v ∧ ∃ m, w' = W.drewN m :=
  (h _ (hF q)).mono fun e w' ⟨h1, h2⟩ => ⟨h1, q, h2.symm⟩

set_option maxHeartbeats 16000000 in
set_option maxRecDepth 100000 in
theorem rins_any (x : St.Ins) (hx : x.Ok) (hkd : 0 ≤ x.kind ∧ x.kind < 20) (A1 : Option Addr) (c1 : Nat) (A2 : Option Addr) (c2 : Nat) (w : World) (h1 : RdS w w.heap.size A1 1 encZ x.args) (h2 : RdS w w.heap.size A2 1 encZ x.outs) :
    Calls Tryz.prog 26 #[insV x A1 c1 A2 c2] w fun e w' => e = .returned (.string ⟨(St.insR x).toArray⟩) ∧ Below w.heap.size w w' := by
  unfold insV
  obtain ⟨kind, op, a, b, n, args, outs⟩ := x
  obtain ⟨xa, xb, xn, ⟨xl1, xz1⟩, xl2, xz2⟩ := hx
  dsimp only at *
  obtain ⟨k, rfl⟩ : ∃ k : Nat, kind = k := ⟨kind.toNat, by omega⟩
  unfold St.insR
  dsimp only
  have hkl0 : St.kindW.length = 20 := by decide +kernel
  have hkw : St.kindw (k : Int) = St.kindW[k]'(by rw [hkl0]; omega) := by
    unfold St.kindw St.word
    rw [if_pos (by rw [hkl0]; omega)]
    simp [show k < St.kindW.length by rw [hkl0]; omega]
  have hkl := St.kindW_len _ (List.getElem_mem (by rw [hkl0]; omega : k < St.kindW.length))
  have HA := Lib.hid (fun W => rfield_any [97] (by simp) a xa W)
  have hal := St.rfield_len (s := [97]) xa
  have HBn := Lib.hid (fun W => rfield_any [98] (by simp) b xb W)
  have hbl := St.rfield_len (s := [98]) xb
  have HOF := Lib.hid (fun W (h : RdS W W.heap.size A1 1 encZ args) => rlist_any [111, 102] (by simp) A1 c1 _ args rfl (by omega) xz1 W h)
  have hfl := St.rlist_len (s := [111, 102]) xz1
  have HTO := Lib.hid (fun W (h : RdS W W.heap.size A2 1 encZ outs) => rlist_any [116, 111] (by simp) A2 c2 _ outs rfl (by omega) xz2 W h)
  have htl := St.rlist_len (s := [116, 111]) xz2
  have HON := Lib.hid (fun W => rname5_any op W)
  have honl := St.name_len op
  have HNA := Lib.hid (fun W => rnat_any n xn W)
  have hnal := St.dec20 xn
  have hot : St.opR op = if op = 0 then [] else [32, 111, 112, 32] ++ Opc.name op := rfl
  have hnt : St.nR n = if n = 0 then [] else [32, 110, 32] ++ Lib.decDigits n := rfl
  obtain ⟨KW, hKW⟩ : ∃ y, St.kindW[k]'(by rw [hkl0]; omega) = y := ⟨_, rfl⟩
  rw [hKW] at hkw hkl
  rw [hkw]
  have HKL := Lib.hid hkl0
  have HKG : Hid (∀ h, St.kindW[k]'h = KW) := Lib.hid (fun h => hKW)
  obtain ⟨TA, hta⟩ : ∃ y, St.rfield [97] a = y := ⟨_, rfl⟩
  rw [hta] at HA hal ⊢
  obtain ⟨TB, htb⟩ : ∃ y, St.rfield [98] b = y := ⟨_, rfl⟩
  rw [htb] at HBn hbl ⊢
  obtain ⟨TF, htf⟩ : ∃ y, St.rlist [111, 102] args = y := ⟨_, rfl⟩
  rw [htf] at HOF hfl ⊢
  obtain ⟨TO, hto⟩ : ∃ y, St.rlist [116, 111] outs = y := ⟨_, rfl⟩
  rw [hto] at HTO htl ⊢
  obtain ⟨OT, hot2⟩ : ∃ y, St.opR op = y := ⟨_, rfl⟩
  rw [hot2] at hot ⊢
  obtain ⟨TN, hnt2⟩ : ∃ y, St.nR n = y := ⟨_, rfl⟩
  rw [hnt2] at hnt ⊢
  obtain ⟨ON, hon⟩ : ∃ y, Opc.name op = y := ⟨_, rfl⟩
  rw [hon] at HON honl hot
  obtain ⟨ND, hnd⟩ : ∃ y, Lib.decDigits n = y := ⟨_, rfl⟩
  rw [hnd] at HNA hnal hnt
  simp at hal hbl hfl htl
  obtain ⟨T1, hT1⟩ : ∃ T, [32, 32] ++ KW = T := ⟨_, rfl⟩
  have hT1l : T1.length ≤ 12 := by rw [← hT1]; simp; omega
  have HE1 : Hid (ByteArray.mk #[32, 32] ++ ByteArray.mk KW.toArray = ByteArray.mk T1.toArray) := Lib.hid (by rw [← hT1]; exact cat2 [32, 32] KW)
  have HT1 := Lib.hid hT1
  have x1 : ¬ 9223372036854775807 < 2 + KW.length := by omega
  clear hnd hon hnt2 hot2 hto htf htb hta hkw hkl hT1 hKW hkl0
  have O1 : op = 0 ∧ OT = [] ∧ (op != 0) = false ∨ op ≠ 0 ∧ OT = [32, 111, 112, 32] ++ ON ∧ (op != 0) = true := by
    by_cases h : op = 0
    · exact .inl ⟨h, by rw [hot, if_pos h], by simp [h]⟩
    · exact .inr ⟨h, by rw [hot, if_neg h], by simp [h]⟩
  have N1 : n = 0 ∧ TN = [] ∧ ((n : Int) != 0) = false ∧ (n != 0) = false ∨ n ≠ 0 ∧ TN = [32, 110, 32] ++ ND ∧ ((n : Int) != 0) = true ∧ (n != 0) = true := by
    by_cases h : n = 0
    · exact .inl ⟨h, by rw [hnt, if_pos h], by simp [h], by simp [h]⟩
    · exact .inr ⟨h, by rw [hnt, if_neg h], by simp [h], by simp [h]⟩
  clear hot hnt
  have k1 : (k : Int) < 20 := by omega
  have k2 : (0 : Int) ≤ (k : Int) := by omega
  have k3 : k < 20 := by omega
  go_enter Tryz.func26, Tryz.ntmps26
  go_upto_region 1 with fail
  refine at_code (F := fun W => Var W w.heap.size #[.int .i64 (k : Int), .int .i64 op, .int .i64 a, .int .i64 b, .int .u64 (n : Int), .slice A1 args.length c1, .slice A2 outs.length c2] 48 ∧ Below w.heap.size w W) ⟨Var.new w _ _, (Below.refl _ w).alloc (Nat.le_refl _) _⟩ ?_
  rintro w0 ⟨V0, B0⟩
  have S0 := cells7 V0
  replace V0 : Var w0.drew _ _ _ := V0
  replace B0 : Below w.heap.size w w0.drew := B0.trans (below_drewN w0 1 |>.mono B0.size)
  have S0' := cells7 V0
  refine wp_region_held_drew (S := (fun W => W.cell? ⟨w.heap.size, 0, none⟩ = some (.int .i64 (k : Int)) ∧ W.cell? ⟨w.heap.size, 1, none⟩ = some (.int .i64 op) ∧ W.cell? ⟨w.heap.size, 2, none⟩ = some (.int .i64 a) ∧ W.cell? ⟨w.heap.size, 3, none⟩ = some (.int .i64 b) ∧ W.cell? ⟨w.heap.size, 4, none⟩ = some (.int .u64 (n : Int)) ∧ W.cell? ⟨w.heap.size, 5, none⟩ = some (.slice A1 args.length c1) ∧ W.cell? ⟨w.heap.size, 6, none⟩ = some (.slice A2 outs.length c2))) (by kernel_rfl) ?_ (fun hHeld0 => ?_)
  · first | assumption | go_keep
  refine tk (i := 1) (oi := ⟨some 5, .fieldAddr 48 (.tmp 1) 0, 0, "ref.go:56", #[], none⟩) rfl ?_; (try simp only [Act.put, List.setIfInBounds_toArray, List.set_cons_succ, List.set_cons_zero])
  refine tk (i := 2) (oi := ⟨some 6, .load 3 (.tmp 5), 3, "ref.go:56", #[⟨1, .data⟩], none⟩) rfl ?_; (try simp only [Act.put, List.setIfInBounds_toArray, List.set_cons_succ, List.set_cons_zero])
  refine wpAnyH_ready (rs := [0]) (by kernel_rfl) (by simp) ?_
  refine AllReadyH.cons (o := ⟨some 4, .call { callee := .value (.func 42), args := #[], argTypes := #[] }, 54, "ref.go:56", #[], none⟩) rfl (fun K hK => ?_) AllReadyH.nil
  go_simp
  (refine (rkinds_any _).mono ?_; rintro e w1 ⟨⟨A, rfl, hrd⟩, hb1⟩; have V1 := V0.below hb1 V0.lt; have S1 := cells7 V1; have B1 := B0.trans (hb1.mono B0.size); obtain ⟨g, o, rfl, hg, hc⟩ := hrd.get (i := k) (by rw [HKL.out]; omega); have f0 := hc 0 _ rfl; rw [HKG.out, Nat.add_zero, Nat.mul_one] at f0)
  (try dsimp only)
  refine hK.out _ _ ?_ (fun hHeld1 => ?_)
  · first | trivial | ((try dsimp only); first | assumption | trivial | go_keep)
  clear hK K hHeld0
  (try simp only [Act.put, List.setIfInBounds_toArray, List.set_cons_succ, List.set_cons_zero])
  refine tk (i := 3) (oi := ⟨some 7, .indexAddr 54 (.tmp 4) (.tmp 6), 0, "ref.go:56", #[⟨0, .data⟩, ⟨2, .data⟩], none⟩) rfl ?_; (try simp only [Act.put, List.setIfInBounds_toArray, List.set_cons_succ, List.set_cons_zero])
  refine wpAnyH_ready (rs := [4]) (by kernel_rfl) (by simp) ?_
  refine AllReadyH.cons (o := ⟨some 8, .load 9 (.tmp 7), 9, "ref.go:56", #[⟨3, .data⟩], none⟩) rfl (fun K hK => ?_) AllReadyH.nil
  go_simp
  skip
  (try dsimp only)
  refine hK.out _ _ ?_ (fun hHeld2 => ?_)
  · first | trivial | ((try dsimp only); first | assumption | trivial | go_keep)
  clear hK K hHeld1
  (try simp only [Act.put, List.setIfInBounds_toArray, List.set_cons_succ, List.set_cons_zero])
  refine tk (i := 5) (oi := ⟨some 9, .binOp .add 9 (.const (.string { data := #[32, 32] })) (.tmp 8) 9, 9, "ref.go:56", #[⟨4, .data⟩], none⟩) rfl ?_; (try simp only [Act.put, List.setIfInBounds_toArray, List.set_cons_succ, List.set_cons_zero])
  refine tk (i := 6) (oi := ⟨some 3, .assign (.tmp 9), 9, "ref.go:56", #[⟨5, .data⟩, ⟨0, .chain⟩, ⟨0, .phase⟩, ⟨1, .phase⟩, ⟨2, .phase⟩, ⟨3, .phase⟩, ⟨4, .phase⟩, ⟨5, .phase⟩], none⟩) rfl ?_; (try simp only [Act.put, List.setIfInBounds_toArray, List.set_cons_succ, List.set_cons_zero])
  refine wpAnyH_done (by kernel_rfl) ?_ _
  rw [HE1.out]
  go_upto_region 2 with fail
  refine at_code (F := fun W => Var W w.heap.size #[.int .i64 (k : Int), .int .i64 op, .int .i64 a, .int .i64 b, .int .u64 (n : Int), .slice A1 args.length c1, .slice A2 outs.length c2] 48 ∧ Below w.heap.size w W) ⟨V1, B1⟩ ?_
  clear V0 V1 B0 B1 S0 S0' S1 hrd hb1 f0 hc hg
  rintro w0 ⟨V0, B0⟩
  obtain ⟨y0, y1, y2, y3, y4, y5, y6⟩ := cells7 V0
  have key : ∀ (T2 : List UInt8), T2.length ≤ 60 → Hid (T1 ++ OT = T2) → True := fun _ _ _ => trivial
  clear key
  rcases O1 with ⟨o1, o2, o3⟩ | ⟨o1, o2, o3⟩
  all_goals
    obtain ⟨T2, hT2⟩ : ∃ T, T1 ++ OT = T := ⟨_, rfl⟩
    have hT2l : T2.length ≤ 60 := by rw [← hT2, o2]; simp; omega
    have HE2 : Hid (ByteArray.mk T1.toArray ++ ByteArray.mk #[32, 111, 112, 32] ++ ByteArray.mk ON.toArray = ByteArray.mk (T1 ++ ([32, 111, 112, 32] ++ ON)).toArray) := Lib.hid (by apply ByteArray.ext; simp)
    have HT2 := Lib.hid hT2
    have HO2 := Lib.hid o2
    have HO1 := Lib.hid o1
    have x2 : ¬ 9223372036854775807 < T1.length + 4 := by omega
    have x3 : ¬ 9223372036854775807 < T1.length + 4 + ON.length := by omega
    clear hT2 o2 o1
    go_upto_region 4 with (go_at_call 61; refine (HON.out _).mono ?_; rintro e w1 ⟨rfl, hb⟩; have V0 := V0.below hb V0.lt; have B0 := B0.trans (hb.mono B0.size))
    first
    | rw [HE2.out, ← HO2.out, HT2.out]
    | rw [show ByteArray.mk T1.toArray = ByteArray.mk T2.toArray from by rw [← HT2.out, HO2.out, List.append_nil]]
    refine at_code (F := fun W => Var W w.heap.size #[.int .i64 (k : Int), .int .i64 op, .int .i64 a, .int .i64 b, .int .u64 (n : Int), .slice A1 args.length c1, .slice A2 outs.length c2] 48 ∧ Below w.heap.size w W) ⟨V0, B0⟩ ?_
    clear V0 B0 y0 y1 y2 y3 y4 y5 y6 x2 x3
    (try clear hb)
    rintro w0 ⟨V0, B0⟩
    obtain ⟨y0, y1, y2, y3, y4, y5, y6⟩ := cells7 V0
    have HAq := Lib.hid (quiet_of HA.out w0)
    have HBq := Lib.hid (quiet_of HBn.out w0)
    have x2 : ¬ 9223372036854775807 < T2.length + TA.length := by omega
    have x3 : ¬ 9223372036854775807 < T2.length + TA.length + TB.length := by omega
    go_quiet ((first | (go_at_call 62; with_reducible exact HAq.out _) | (go_at_call 62; with_reducible exact HBq.out _)))
    obtain ⟨T3, hT3⟩ : ∃ T, T2 ++ TA ++ TB = T := ⟨_, rfl⟩
    have hT3l : T3.length ≤ 120 := by rw [← hT3]; simp; omega
    have HE3 : Hid (ByteArray.mk T2.toArray ++ ByteArray.mk TA.toArray ++ ByteArray.mk TB.toArray = ByteArray.mk T3.toArray) := Lib.hid (by rw [← hT3]; apply ByteArray.ext; simp)
    have HT3 := Lib.hid hT3
    clear hT3
    rw [HE3.out]
    go_upto_region 5 with fail
    refine at_code (F := fun W => Var W w.heap.size #[.int .i64 (k : Int), .int .i64 op, .int .i64 a, .int .i64 b, .int .u64 (n : Int), .slice A1 args.length c1, .slice A2 outs.length c2] 48 ∧ Below w.heap.size w W) ⟨V0, B0.trans ((below_drewN w0 _).mono B0.size)⟩ ?_
    clear V0 B0 y0 y1 y2 y3 y4 y5 y6 HAq HBq x2 x3
    rintro w0 ⟨V0, B0⟩
    obtain ⟨y0, y1, y2, y3, y4, y5, y6⟩ := cells7 V0
    rcases N1 with ⟨n1, n2, n3, n4⟩ | ⟨n1, n2, n3, n4⟩
    all_goals
      obtain ⟨T4, hT4⟩ : ∃ T, T3 ++ TN = T := ⟨_, rfl⟩
      have hT4l : T4.length ≤ 150 := by rw [← hT4, n2]; simp; omega
      have HE4 : Hid (ByteArray.mk T3.toArray ++ ByteArray.mk #[32, 110, 32] ++ ByteArray.mk ND.toArray = ByteArray.mk (T3 ++ ([32, 110, 32] ++ ND)).toArray) := Lib.hid (by apply ByteArray.ext; simp)
      have HT4 := Lib.hid hT4
      have HN2 := Lib.hid n2
      have HN1 := Lib.hid n1
      have x2 : ¬ 9223372036854775807 < T3.length + 3 := by omega
      have x3 : ¬ 9223372036854775807 < T3.length + 3 + ND.length := by omega
      clear hT4 n2 n1
      go_upto_region 7 with (go_at_call 60; refine (HNA.out _).mono ?_; rintro e w1 ⟨rfl, rfl⟩)
      first
      | rw [HE4.out, ← HN2.out, HT4.out]
      | rw [show ByteArray.mk T3.toArray = ByteArray.mk T4.toArray from by rw [← HT4.out, HN2.out, List.append_nil]]
      have HOFq := Lib.hid (quiet_of2 (F := fun W => RdS W W.heap.size A1 1 encZ args) (fun q => (h1.onB B0).drewN q) HOF.out)
      have HTOq := Lib.hid (quiet_of2 (F := fun W => RdS W W.heap.size A2 1 encZ outs) (fun q => (h2.onB B0).drewN q) HTO.out)
      have x4 : ¬ 9223372036854775807 < T4.length + TF.length := by omega
      have x5 : ¬ 9223372036854775807 < T4.length + TF.length + TO.length := by omega
      have x6 : ¬ 9223372036854775807 < T4.length + TF.length + TO.length + 1 := by omega
      go_quiet ((first | (go_at_call 63; with_reducible exact HOFq.out _) | (go_at_call 63; with_reducible exact HTOq.out _)))
      go_wp2
      go_ret
      refine ⟨?_, B0.trans ((below_drewN w0 _).mono B0.size)⟩
      have HE5 : ByteArray.mk T4.toArray ++ ByteArray.mk TF.toArray ++ ByteArray.mk TO.toArray ++ ByteArray.mk #[10] = ByteArray.mk (T4 ++ TF ++ TO ++ [10]).toArray := by apply ByteArray.ext; simp
      refine congrArg (fun s => Ending.returned (.string s)) (HE5.trans ?_)
      rw [← HT4.out, ← HT3.out, ← HT2.out, ← HT1.out]
      simp
end Go.Proofs.YtmhmpobjjhbklaaGreatDoor
