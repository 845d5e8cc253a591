/-
  Layer 40, the reference: the line of a terminator. (Printed by gen_sr3.py.)
-/
import Derived.Test.YtmhmpobjjhbklaaGreatDoorTk
import Derived.Test.YtmhmpobjjhbklaaGreatDoorSR2
import Derived.Test.YtmhmpobjjhbklaaGreatDoorSt7
set_option linter.unusedVariables false
set_option linter.unusedSimpArgs false
namespace Go.Proofs.YtmhmpobjjhbklaaGreatDoor
namespace St
def edR (e : Edge) : List UInt8 := [32, 116, 111, 32] ++ Lib.itoa e.tgt ++ sp (e.args.map Lib.itoa)
def finR (x : Fin) : List UInt8 := [32, 32, 101, 110, 100, 32] ++ (word endW x.kind).1 ++ rfield [111, 110] x.cond ++ rlist [111, 102] x.args ++ x.edges.flatMap edR ++ rfield [116, 114, 97, 112] x.trap ++ [10]
theorem edR_len (l : List Edge) (h : ∀ e ∈ l, e.Ok) : (l.flatMap edR).length ≤ 30 * ecount l := by
  induction l with
  | nil => simp
  | cons e l ih =>
    have he := h e (by simp)
    have := ih fun e he => h e (by simp [he])
    have h3 := itoa_len he.1
    have h4 := sp_len he.2.2
    rw [List.flatMap_cons, List.length_append]
    unfold edR ecount at *
    simp at *
    omega
end St
open Go.RowKit
open St (InR)

set_option maxHeartbeats 16000000 in
set_option maxRecDepth 100000 in
theorem rfin40_any (x : St.Fin) (hx : x.Ok) (hkd : 0 ≤ x.kind ∧ x.kind < 5) (S : Nat → Prop) (A1 : Option Addr) (c1 : Nat) (A2 : Option Addr) (c2 : Nat) (w : World) (h1 : RdS w w.heap.size A1 1 encZ x.args) (h2 : RdT w S A2 2 (EdgeAt S) x.edges) :
    Calls Tryz.prog 27 #[finV x A1 c1 A2 c2] w fun e w' => e = .returned (.string ⟨(St.finR x).toArray⟩) ∧ Below w.heap.size w w' := by
  unfold finV
  unfold St.finR
  obtain ⟨kind, cond, args, edges, trap⟩ := x
  obtain ⟨xc, ⟨xl1, xz1⟩, ⟨xl2, xz2⟩, xt⟩ := hx
  dsimp only at *
  obtain ⟨k, rfl⟩ : ∃ k : Nat, kind = k := ⟨kind.toNat, by omega⟩
  have hkl0 : St.endW.length = 5 := by decide +kernel
  have hkw : (St.word St.endW (k : Int)).1 = St.endW[k]'(by rw [hkl0]; omega) := by
    unfold St.word
    rw [if_pos (by rw [hkl0]; omega)]
    simp [show k < St.endW.length by rw [hkl0]; omega]
  have hkl := St.endW_len _ (List.getElem_mem (by rw [hkl0]; omega : k < St.endW.length))
  have HEL : Hid (∀ i, ((edges.take i).flatMap St.edR).length ≤ 600000) := Lib.hid fun i => by
    have := St.edR_len (edges.take i) fun e he => xz2 e (List.mem_of_mem_take he)
    have := St.ecount_take edges i
    omega
  have hedl : edges.length ≤ 20000 := by have := St.ecount_len edges; omega
  have HON := Lib.hid (fun W => rfield_any [111, 110] (by simp) cond xc W)
  have hol := St.rfield_len (s := [111, 110]) xc
  have HOF := Lib.hid (fun W (h : RdS W W.heap.size A1 1 encZ args) => rlist_any [111, 102] (by simp) A1 c1 _ args rfl (by omega) xz1 W h)
  have hfl := St.rlist_len (s := [111, 102]) xz1
  have HTR := Lib.hid (fun W => rfield_any [116, 114, 97, 112] (by simp) trap xt W)
  have htl := St.rfield_len (s := [116, 114, 97, 112]) xt
  obtain ⟨KW, hKW⟩ : ∃ y, St.endW[k]'(by rw [hkl0]; omega) = y := ⟨_, rfl⟩
  rw [hKW] at hkw hkl
  rw [hkw]
  have HKL := Lib.hid hkl0
  have HKG : Hid (∀ h, St.endW[k]'h = KW) := Lib.hid (fun h => hKW)
  obtain ⟨TO, hto⟩ : ∃ y, St.rfield [111, 110] cond = y := ⟨_, rfl⟩
  rw [hto] at HON hol ⊢
  obtain ⟨TF, htf⟩ : ∃ y, St.rlist [111, 102] args = y := ⟨_, rfl⟩
  rw [htf] at HOF hfl ⊢
  obtain ⟨TT, htt⟩ : ∃ y, St.rfield [116, 114, 97, 112] trap = y := ⟨_, rfl⟩
  rw [htt] at HTR htl ⊢
  simp at hol hfl htl
  obtain ⟨T1, hT1⟩ : ∃ T, [32, 32, 101, 110, 100, 32] ++ KW ++ TO ++ TF = T := ⟨_, rfl⟩
  have hT1l : T1.length ≤ 300000 := by rw [← hT1]; simp; omega
  have HE1 : Hid (ByteArray.mk #[32, 32, 101, 110, 100, 32] ++ ByteArray.mk KW.toArray ++ ByteArray.mk TO.toArray ++ ByteArray.mk TF.toArray = ByteArray.mk T1.toArray) := Lib.hid (by rw [← hT1]; apply ByteArray.ext; simp)
  have HT1 := Lib.hid hT1
  have HZ2 := Lib.hid xz2
  have x1 : ¬ 9223372036854775807 < 6 + KW.length := by omega
  have x1b : ¬ 9223372036854775807 < 6 + KW.length + TO.length := by omega
  have x1c : ¬ 9223372036854775807 < 6 + KW.length + TO.length + TF.length := by omega
  have k1 : (k : Int) < 5 := by omega
  have k2 : (0 : Int) ≤ (k : Int) := by omega
  have k3 : k < 5 := by omega
  clear htt htf hto hkw hkl hT1 hKW hkl0 xz1 xc xt xz2
  go_enter Tryz.func27, Tryz.ntmps27
  go_upto_region 1 with fail
  refine at_code (F := fun W => Var W w.heap.size #[.int .i64 (k : Int), .int .i64 cond, .slice A1 args.length c1, .slice A2 edges.length c2, .int .i64 trap] 42 ∧ Below w.heap.size w W) ⟨Var.new w _ _, (Below.refl _ w).alloc (Nat.le_refl _) _⟩ ?_
  rintro w0 ⟨V0, B0⟩
  have S0 := cells5 V0
  replace V0 : Var w0.drew _ _ _ := V0
  replace B0 : Below w.heap.size w w0.drew := B0.trans (below_drewN w0 1 |>.mono B0.size)
  have S0' := cells5 V0
  refine wp_region_held_drew (S := (fun W => W.cell? ⟨w.heap.size, 0, none⟩ = some (.int .i64 (k : Int)) ∧ W.cell? ⟨w.heap.size, 1, none⟩ = some (.int .i64 cond) ∧ W.cell? ⟨w.heap.size, 2, none⟩ = some (.slice A1 args.length c1) ∧ W.cell? ⟨w.heap.size, 3, none⟩ = some (.slice A2 edges.length c2) ∧ W.cell? ⟨w.heap.size, 4, none⟩ = some (.int .i64 trap))) (by kernel_rfl) ?_ (fun hHeld0 => ?_)
  · first | assumption | go_keep
  refine tk (i := 1) (oi := ⟨some 7, .fieldAddr 42 (.tmp 1) 0, 0, "ref.go:69", #[], none⟩) rfl ?_; (try simp only [Act.put, List.setIfInBounds_toArray, List.set_cons_succ, List.set_cons_zero])
  refine tk (i := 2) (oi := ⟨some 8, .load 3 (.tmp 7), 3, "ref.go:69", #[⟨1, .data⟩], none⟩) rfl ?_; (try simp only [Act.put, List.setIfInBounds_toArray, List.set_cons_succ, List.set_cons_zero])
  refine tk (i := 6) (oi := ⟨some 12, .fieldAddr 42 (.tmp 1) 1, 0, "ref.go:69", #[], none⟩) rfl ?_; (try simp only [Act.put, List.setIfInBounds_toArray, List.set_cons_succ, List.set_cons_zero])
  refine tk (i := 7) (oi := ⟨some 13, .load 3 (.tmp 12), 3, "ref.go:69", #[⟨6, .data⟩], none⟩) rfl ?_; (try simp only [Act.put, List.setIfInBounds_toArray, List.set_cons_succ, List.set_cons_zero])
  refine tk (i := 10) (oi := ⟨some 16, .fieldAddr 42 (.tmp 1) 2, 0, "ref.go:69", #[], none⟩) rfl ?_; (try simp only [Act.put, List.setIfInBounds_toArray, List.set_cons_succ, List.set_cons_zero])
  refine tk (i := 11) (oi := ⟨some 17, .load 37 (.tmp 16), 37, "ref.go:69", #[⟨10, .data⟩], none⟩) rfl ?_; (try simp only [Act.put, List.setIfInBounds_toArray, List.set_cons_succ, List.set_cons_zero])
  refine wpAnyH_ready (rs := [0]) (by kernel_rfl) (by simp) ?_
  refine (AllReadyH.cons (o := ⟨some 6, .call { callee := .value (.func 44), args := #[], argTypes := #[] }, 54, "ref.go:69", #[], none⟩) rfl (fun K hK => ?_) AllReadyH.nil)
  go_simp
  (refine (rends_any _).mono ?_; rintro e w1 ⟨⟨A, rfl, hrd⟩, hb1⟩; have V1 := V0.below hb1 V0.lt; have S1 := cells5 V1; have B1 := B0.trans (hb1.mono B0.size); obtain ⟨g, o, rfl, hg, hc⟩ := hrd.get (i := k) (by rw [HKL.out]; omega); have f0 := hc 0 _ rfl; rw [HKG.out, Nat.add_zero, Nat.mul_one] at f0)
  (try dsimp only)
  refine hK.out _ _ ?_ (fun hHeld1 => ?_)
  · first | trivial | ((try dsimp only); first | assumption | trivial | go_keep)
  clear hK K hHeld0
  (try simp only [Act.put, List.setIfInBounds_toArray, List.set_cons_succ, List.set_cons_zero])
  refine tk (i := 3) (oi := ⟨some 9, .indexAddr 54 (.tmp 6) (.tmp 8), 0, "ref.go:69", #[⟨0, .data⟩, ⟨2, .data⟩], none⟩) rfl ?_; (try simp only [Act.put, List.setIfInBounds_toArray, List.set_cons_succ, List.set_cons_zero])
  refine wpAnyH_ready (rs := [4, 8]) (by kernel_rfl) (by simp) ?_
  refine (AllReadyH.cons (o := ⟨some 10, .load 9 (.tmp 9), 9, "ref.go:69", #[⟨3, .data⟩], none⟩) rfl (fun K hK => ?_) (AllReadyH.cons (o := ⟨some 14, .call { callee := .value (.func 62), args := #[.const (.string { data := #[111, 110] }), .tmp 13], argTypes := #[9, 3] }, 9, "ref.go:69", #[⟨7, .data⟩, ⟨0, .chain⟩], none⟩) rfl (fun K hK => ?_) AllReadyH.nil))
  · skip
    go_simp
    skip
    (try dsimp only)
    refine hK.out _ _ ?_ (fun hHeld2 => ?_)
    · first | trivial | ((try dsimp only); first | assumption | trivial | go_keep)
    clear hK K hHeld1
    (try simp only [Act.put, List.setIfInBounds_toArray, List.set_cons_succ, List.set_cons_zero])
    refine tk (i := 5) (oi := ⟨some 11, .binOp .add 9 (.const (.string { data := #[32, 32, 101, 110, 100, 32] })) (.tmp 10) 9, 9, "ref.go:69", #[⟨4, .data⟩], none⟩) rfl ?_; (try simp only [Act.put, List.setIfInBounds_toArray, List.set_cons_succ, List.set_cons_zero])
    refine wpAnyH_ready (rs := [8]) (by kernel_rfl) (by simp) ?_
    refine (AllReadyH.cons (o := ⟨some 14, .call { callee := .value (.func 62), args := #[.const (.string { data := #[111, 110] }), .tmp 13], argTypes := #[9, 3] }, 9, "ref.go:69", #[⟨7, .data⟩, ⟨0, .chain⟩], none⟩) rfl (fun K hK => ?_) AllReadyH.nil)
    go_simp
    (with_reducible refine (HON.out _).mono ?_; rintro e w2 ⟨rfl, rfl⟩)
    (try dsimp only)
    refine hK.out _ _ ?_ (fun hHeld3 => ?_)
    · first | trivial | ((try dsimp only); first | assumption | trivial | go_keep)
    clear hK K hHeld2
    (try simp only [Act.put, List.setIfInBounds_toArray, List.set_cons_succ, List.set_cons_zero])
    refine tk (i := 9) (oi := ⟨some 15, .binOp .add 9 (.tmp 11) (.tmp 14) 9, 9, "ref.go:69", #[⟨5, .data⟩, ⟨8, .data⟩], none⟩) rfl ?_; (try simp only [Act.put, List.setIfInBounds_toArray, List.set_cons_succ, List.set_cons_zero])
    refine wpAnyH_ready (rs := [12]) (by kernel_rfl) (by simp) ?_
    refine (AllReadyH.cons (o := ⟨some 18, .call { callee := .value (.func 63), args := #[.const (.string { data := #[111, 102] }), .tmp 17], argTypes := #[9, 37] }, 9, "ref.go:69", #[⟨11, .data⟩, ⟨8, .chain⟩], none⟩) rfl (fun K hK => ?_) AllReadyH.nil)
    go_simp
    (with_reducible refine (HOF.out _ (h1.onB B1)).mono ?_; rintro e w3 ⟨rfl, rfl⟩)
    (try dsimp only)
    refine hK.out _ _ ?_ (fun hHeld4 => ?_)
    · first | trivial | ((try dsimp only); first | assumption | trivial | go_keep)
    clear hK K hHeld3
    (try simp only [Act.put, List.setIfInBounds_toArray, List.set_cons_succ, List.set_cons_zero])
    refine tk (i := 13) (oi := ⟨some 19, .binOp .add 9 (.tmp 15) (.tmp 18) 9, 9, "ref.go:69", #[⟨9, .data⟩, ⟨12, .data⟩], none⟩) rfl ?_; (try simp only [Act.put, List.setIfInBounds_toArray, List.set_cons_succ, List.set_cons_zero])
    refine tk (i := 14) (oi := ⟨some 3, .assign (.tmp 19), 9, "ref.go:69", #[⟨13, .data⟩, ⟨12, .chain⟩, ⟨0, .phase⟩, ⟨1, .phase⟩, ⟨2, .phase⟩, ⟨3, .phase⟩, ⟨4, .phase⟩, ⟨5, .phase⟩, ⟨6, .phase⟩, ⟨7, .phase⟩, ⟨8, .phase⟩, ⟨9, .phase⟩, ⟨10, .phase⟩, ⟨11, .phase⟩, ⟨12, .phase⟩, ⟨13, .phase⟩], none⟩) rfl ?_; (try simp only [Act.put, List.setIfInBounds_toArray, List.set_cons_succ, List.set_cons_zero])
    refine wpAnyH_done (by kernel_rfl) ?_ _
    rw [HE1.out]
    go_upto_region 2 with fail
    refine at_code (F := fun W => Var W w.heap.size #[.int .i64 (k : Int), .int .i64 cond, .slice A1 args.length c1, .slice A2 edges.length c2, .int .i64 trap] 42 ∧ Below w.heap.size w W) ⟨V1, B1⟩ ?_
    clear V0 V1 B0 B1 S0 S0' S1 hrd hb1 f0 hc hg
    rintro w0 ⟨V0, B0⟩
    obtain ⟨y0, y1, y2, y3, y4⟩ := cells5 V0
    have hE := h2.edgeOn B0
    go_wp2
    go_loopw [3, 4] (fun sv iv wr => ∃ i : Nat, iv = .int .i64 (i : Int) ∧ i ≤ edges.length ∧ sv = .string ⟨(T1 ++ (edges.take i).flatMap St.edR).toArray⟩ ∧ wr = w0) (fun _ iv _ => edges.length - (intOf iv).toNat)
    case atStart => exact ⟨0, rfl, by omega, by simp, rfl⟩
    case round =>
      obtain ⟨i, rfl, hi, rfl, rfl⟩ := hrel
      have hel := HEL.out i
      by_cases hia : i < edges.length
      · obtain ⟨g, o, rfl, hsg, hg, he⟩ := hE.get hia
        have hst : (edges.take (i + 1)).flatMap St.edR = (edges.take i).flatMap St.edR ++ St.edR edges[i] := by rw [List.take_succ_eq_append_getElem hia, List.flatMap_append]; simp
        have hok := HZ2.out edges[i] (List.getElem_mem _)
        obtain ⟨⟨tgt, eargs⟩, hev⟩ : ∃ e, edges[i] = e := ⟨_, rfl⟩
        rw [hev] at he hok hst
        obtain ⟨f0, Ae, ce, f1, hz⟩ := he
        obtain ⟨ok1, ok2, ok3⟩ := hok
        dsimp only at f0 f1 hz ok1 ok2 ok3 hst
        have HI := Lib.hid (fun W => rnum_any tgt ok1 W)
        have hil := St.itoa_len ok1
        obtain ⟨TI, hti⟩ : ∃ y, Lib.itoa tgt = y := ⟨_, rfl⟩
        have hed : St.edR ⟨tgt, eargs⟩ = [32, 116, 111, 32] ++ Lib.itoa tgt ++ St.sp (eargs.map Lib.itoa) := rfl
        rw [hti] at HI hil hed
        rw [hed] at hst
        obtain ⟨T2, hT2⟩ : ∃ y, T1 ++ (edges.take i).flatMap St.edR = y := ⟨_, rfl⟩
        have hT2l : T2.length ≤ 2000000 := by rw [← hT2, List.length_append]; omega
        rw [hT2]
        have hst2 : T1 ++ (edges.take (i + 1)).flatMap St.edR = T2 ++ [32, 116, 111, 32] ++ TI ++ St.sp (eargs.map Lib.itoa) := by rw [hst, ← hT2]; simp
        have x0 : (i : Int) < (edges.length : Int) := by omega
        have x2 : (0 : Int) ≤ (i : Int) := by omega
        have x3 : ¬ 9223372036854775807 < T2.length + 4 := by omega
        have x4 : ¬ 9223372036854775807 < T2.length + 4 + TI.length := by omega
        have HE2 : Hid (ByteArray.mk T2.toArray ++ ByteArray.mk #[32, 116, 111, 32] ++ ByteArray.mk TI.toArray = ByteArray.mk (T2 ++ [32, 116, 111, 32] ++ TI ++ St.sp ((eargs.take 0).map Lib.itoa)).toArray) := Lib.hid (by apply ByteArray.ext; simp [St.sp])
        have HST := Lib.hid hst2
        have HOK3 := Lib.hid ok3
        have hzr := hz.rds
        clear hst hst2 hti hed hT2 hev ok3 ok1 hz
        go_wp2_with (go_at_call 25; refine (HI.out _).mono ?_; rintro e w1 ⟨rfl, rfl⟩)
        go_loopw [3, 5] (fun sv kv wq => ∃ j : Nat, kv = .int .i64 (j : Int) ∧ j ≤ eargs.length ∧ sv = .string ⟨(T2 ++ [32, 116, 111, 32] ++ TI ++ St.sp ((eargs.take j).map Lib.itoa)).toArray⟩ ∧ wq = wr) (fun _ kv _ => eargs.length - (intOf kv).toNat)
        case atStart => exact ⟨0, rfl, by omega, congrArg Value.string HE2.out, rfl⟩
        case round =>
          obtain ⟨j, rfl, hj, rfl, rfl⟩ := hrel
          by_cases hja : j < eargs.length
          · obtain ⟨ga, oa, rfl, hb1, e1⟩ := hzr.get hja
            have ht2 : St.sp ((eargs.take (j + 1)).map Lib.itoa) = St.sp ((eargs.take j).map Lib.itoa) ++ (32 :: Lib.itoa eargs[j]) := by rw [List.take_succ_eq_append_getElem hja, List.map_append, St.sp_app]; simp [St.sp]
            have hsl := St.sp_len (l := eargs.take j) fun z hz => HOK3.out z (List.mem_of_mem_take hz)
            rw [List.length_take] at hsl
            have hss := HOK3.out eargs[j] (List.getElem_mem _)
            have q0 := e1 0 _ rfl
            rw [Nat.add_zero, Nat.mul_one] at q0
            obtain ⟨z, hv⟩ : ∃ v, eargs[j] = v := ⟨_, rfl⟩
            rw [hv] at q0 ht2 hss
            have y5 : (j : Int) < (eargs.length : Int) := by omega
            have y6 : (0 : Int) ≤ (j : Int) := by omega
            have hil2 := St.itoa_len hss
            have HI2 := Lib.hid (fun W => rnum_any z hss W)
            obtain ⟨s, hs⟩ : ∃ s, Lib.itoa z = s := ⟨_, rfl⟩
            simp only [hs] at HI2 ht2 hil2
            obtain ⟨T3, hT3⟩ : ∃ T, T2 ++ [32, 116, 111, 32] ++ TI ++ St.sp ((eargs.take j).map Lib.itoa) = T := ⟨_, rfl⟩
            have hTl : T3.length ≤ 3000000 := by rw [← hT3, List.length_append, List.length_append, List.length_append]; simp at hsl ⊢; omega
            have ht3 : T2 ++ [32, 116, 111, 32] ++ TI ++ St.sp ((eargs.take (j + 1)).map Lib.itoa) = T3 ++ [32] ++ s := by rw [ht2, ← hT3]; simp
            rw [hT3]
            have x5 : ¬ 9223372036854775807 < T3.length + 1 := by omega
            have x6 : ¬ 9223372036854775807 < T3.length + 1 + s.length := by omega
            have HE3 : Hid (ByteArray.mk T3.toArray ++ ByteArray.mk #[32] ++ ByteArray.mk s.toArray = ByteArray.mk (T3 ++ [32] ++ s).toArray) := Lib.hid (by apply ByteArray.ext; simp)
            have HT3 := Lib.hid ht3
            clear hs ht2 ht3 hT3 hv e1 hss hsl
            go_wp2_with (go_at_call 25; refine (HI2.out _).mono ?_; rintro e w1 ⟨rfl, rfl⟩)
            go_roundw
            case rel => exact ⟨j + 1, by go_num, by omega, by rw [HT3.out]; exact congrArg Value.string HE3.out, by trivial⟩
            case measure => simp [intOf]; omega
          · have hj2 : j = eargs.length := by omega
            subst hj2
            rw [List.take_length, ← HST.out]
            have y5 : ¬ (eargs.length : Int) < (eargs.length : Int) := by omega
            go_wp2
            go_roundw
            case rel => exact ⟨i + 1, by go_num, by omega, rfl, by trivial⟩
            case measure => simp [intOf]; omega
      · have hi2 : i = edges.length := by omega
        subst hi2
        rw [List.take_length] at hel ⊢
        obtain ⟨T2, hT2⟩ : ∃ y, T1 ++ edges.flatMap St.edR = y := ⟨_, rfl⟩
        have hT2l : T2.length ≤ 2000000 := by rw [← hT2, List.length_append]; omega
        rw [hT2]
        have x0 : ¬ (edges.length : Int) < (edges.length : Int) := by omega
        have x3 : ¬ 9223372036854775807 < T2.length + TT.length := by omega
        have x4 : ¬ 9223372036854775807 < T2.length + TT.length + 1 := by omega
        have HE2 : Hid (ByteArray.mk T2.toArray ++ ByteArray.mk TT.toArray ++ ByteArray.mk #[10] = ByteArray.mk (T2 ++ TT ++ [10]).toArray) := Lib.hid (by apply ByteArray.ext; simp)
        have HT2 := Lib.hid hT2
        clear hT2
        go_wp2_with (go_at_call 62; with_reducible refine (HTR.out _).mono ?_; rintro e w1 ⟨rfl, rfl⟩)
        go_ret
        refine ⟨?_, B0⟩
        refine congrArg (fun s => Ending.returned (.string s)) (HE2.out.trans ?_)
        rw [← HT2.out, ← HT1.out]
        simp
  · skip
    go_simp
    (with_reducible refine (HON.out _).mono ?_; rintro e w2 ⟨rfl, rfl⟩)
    (try dsimp only)
    refine hK.out _ _ ?_ (fun hHeld2 => ?_)
    · first | trivial | ((try dsimp only); first | assumption | trivial | go_keep)
    clear hK K hHeld1
    (try simp only [Act.put, List.setIfInBounds_toArray, List.set_cons_succ, List.set_cons_zero])
    refine wpAnyH_ready (rs := [4, 12]) (by kernel_rfl) (by simp) ?_
    refine (AllReadyH.cons (o := ⟨some 10, .load 9 (.tmp 9), 9, "ref.go:69", #[⟨3, .data⟩], none⟩) rfl (fun K hK => ?_) (AllReadyH.cons (o := ⟨some 18, .call { callee := .value (.func 63), args := #[.const (.string { data := #[111, 102] }), .tmp 17], argTypes := #[9, 37] }, 9, "ref.go:69", #[⟨11, .data⟩, ⟨8, .chain⟩], none⟩) rfl (fun K hK => ?_) AllReadyH.nil))
    · skip
      go_simp
      skip
      (try dsimp only)
      refine hK.out _ _ ?_ (fun hHeld3 => ?_)
      · first | trivial | ((try dsimp only); first | assumption | trivial | go_keep)
      clear hK K hHeld2
      (try simp only [Act.put, List.setIfInBounds_toArray, List.set_cons_succ, List.set_cons_zero])
      refine tk (i := 5) (oi := ⟨some 11, .binOp .add 9 (.const (.string { data := #[32, 32, 101, 110, 100, 32] })) (.tmp 10) 9, 9, "ref.go:69", #[⟨4, .data⟩], none⟩) rfl ?_; (try simp only [Act.put, List.setIfInBounds_toArray, List.set_cons_succ, List.set_cons_zero])
      refine tk (i := 9) (oi := ⟨some 15, .binOp .add 9 (.tmp 11) (.tmp 14) 9, 9, "ref.go:69", #[⟨5, .data⟩, ⟨8, .data⟩], none⟩) rfl ?_; (try simp only [Act.put, List.setIfInBounds_toArray, List.set_cons_succ, List.set_cons_zero])
      refine wpAnyH_ready (rs := [12]) (by kernel_rfl) (by simp) ?_
      refine (AllReadyH.cons (o := ⟨some 18, .call { callee := .value (.func 63), args := #[.const (.string { data := #[111, 102] }), .tmp 17], argTypes := #[9, 37] }, 9, "ref.go:69", #[⟨11, .data⟩, ⟨8, .chain⟩], none⟩) rfl (fun K hK => ?_) AllReadyH.nil)
      go_simp
      (with_reducible refine (HOF.out _ (h1.onB B1)).mono ?_; rintro e w3 ⟨rfl, rfl⟩)
      (try dsimp only)
      refine hK.out _ _ ?_ (fun hHeld4 => ?_)
      · first | trivial | ((try dsimp only); first | assumption | trivial | go_keep)
      clear hK K hHeld3
      (try simp only [Act.put, List.setIfInBounds_toArray, List.set_cons_succ, List.set_cons_zero])
      refine tk (i := 13) (oi := ⟨some 19, .binOp .add 9 (.tmp 15) (.tmp 18) 9, 9, "ref.go:69", #[⟨9, .data⟩, ⟨12, .data⟩], none⟩) rfl ?_; (try simp only [Act.put, List.setIfInBounds_toArray, List.set_cons_succ, List.set_cons_zero])
      refine tk (i := 14) (oi := ⟨some 3, .assign (.tmp 19), 9, "ref.go:69", #[⟨13, .data⟩, ⟨12, .chain⟩, ⟨0, .phase⟩, ⟨1, .phase⟩, ⟨2, .phase⟩, ⟨3, .phase⟩, ⟨4, .phase⟩, ⟨5, .phase⟩, ⟨6, .phase⟩, ⟨7, .phase⟩, ⟨8, .phase⟩, ⟨9, .phase⟩, ⟨10, .phase⟩, ⟨11, .phase⟩, ⟨12, .phase⟩, ⟨13, .phase⟩], none⟩) rfl ?_; (try simp only [Act.put, List.setIfInBounds_toArray, List.set_cons_succ, List.set_cons_zero])
      refine wpAnyH_done (by kernel_rfl) ?_ _
      rw [HE1.out]
      go_upto_region 2 with fail
      refine at_code (F := fun W => Var W w.heap.size #[.int .i64 (k : Int), .int .i64 cond, .slice A1 args.length c1, .slice A2 edges.length c2, .int .i64 trap] 42 ∧ Below w.heap.size w W) ⟨V1, B1⟩ ?_
      clear V0 V1 B0 B1 S0 S0' S1 hrd hb1 f0 hc hg
      rintro w0 ⟨V0, B0⟩
      obtain ⟨y0, y1, y2, y3, y4⟩ := cells5 V0
      have hE := h2.edgeOn B0
      go_wp2
      go_loopw [3, 4] (fun sv iv wr => ∃ i : Nat, iv = .int .i64 (i : Int) ∧ i ≤ edges.length ∧ sv = .string ⟨(T1 ++ (edges.take i).flatMap St.edR).toArray⟩ ∧ wr = w0) (fun _ iv _ => edges.length - (intOf iv).toNat)
      case atStart => exact ⟨0, rfl, by omega, by simp, rfl⟩
      case round =>
        obtain ⟨i, rfl, hi, rfl, rfl⟩ := hrel
        have hel := HEL.out i
        by_cases hia : i < edges.length
        · obtain ⟨g, o, rfl, hsg, hg, he⟩ := hE.get hia
          have hst : (edges.take (i + 1)).flatMap St.edR = (edges.take i).flatMap St.edR ++ St.edR edges[i] := by rw [List.take_succ_eq_append_getElem hia, List.flatMap_append]; simp
          have hok := HZ2.out edges[i] (List.getElem_mem _)
          obtain ⟨⟨tgt, eargs⟩, hev⟩ : ∃ e, edges[i] = e := ⟨_, rfl⟩
          rw [hev] at he hok hst
          obtain ⟨f0, Ae, ce, f1, hz⟩ := he
          obtain ⟨ok1, ok2, ok3⟩ := hok
          dsimp only at f0 f1 hz ok1 ok2 ok3 hst
          have HI := Lib.hid (fun W => rnum_any tgt ok1 W)
          have hil := St.itoa_len ok1
          obtain ⟨TI, hti⟩ : ∃ y, Lib.itoa tgt = y := ⟨_, rfl⟩
          have hed : St.edR ⟨tgt, eargs⟩ = [32, 116, 111, 32] ++ Lib.itoa tgt ++ St.sp (eargs.map Lib.itoa) := rfl
          rw [hti] at HI hil hed
          rw [hed] at hst
          obtain ⟨T2, hT2⟩ : ∃ y, T1 ++ (edges.take i).flatMap St.edR = y := ⟨_, rfl⟩
          have hT2l : T2.length ≤ 2000000 := by rw [← hT2, List.length_append]; omega
          rw [hT2]
          have hst2 : T1 ++ (edges.take (i + 1)).flatMap St.edR = T2 ++ [32, 116, 111, 32] ++ TI ++ St.sp (eargs.map Lib.itoa) := by rw [hst, ← hT2]; simp
          have x0 : (i : Int) < (edges.length : Int) := by omega
          have x2 : (0 : Int) ≤ (i : Int) := by omega
          have x3 : ¬ 9223372036854775807 < T2.length + 4 := by omega
          have x4 : ¬ 9223372036854775807 < T2.length + 4 + TI.length := by omega
          have HE2 : Hid (ByteArray.mk T2.toArray ++ ByteArray.mk #[32, 116, 111, 32] ++ ByteArray.mk TI.toArray = ByteArray.mk (T2 ++ [32, 116, 111, 32] ++ TI ++ St.sp ((eargs.take 0).map Lib.itoa)).toArray) := Lib.hid (by apply ByteArray.ext; simp [St.sp])
          have HST := Lib.hid hst2
          have HOK3 := Lib.hid ok3
          have hzr := hz.rds
          clear hst hst2 hti hed hT2 hev ok3 ok1 hz
          go_wp2_with (go_at_call 25; refine (HI.out _).mono ?_; rintro e w1 ⟨rfl, rfl⟩)
          go_loopw [3, 5] (fun sv kv wq => ∃ j : Nat, kv = .int .i64 (j : Int) ∧ j ≤ eargs.length ∧ sv = .string ⟨(T2 ++ [32, 116, 111, 32] ++ TI ++ St.sp ((eargs.take j).map Lib.itoa)).toArray⟩ ∧ wq = wr) (fun _ kv _ => eargs.length - (intOf kv).toNat)
          case atStart => exact ⟨0, rfl, by omega, congrArg Value.string HE2.out, rfl⟩
          case round =>
            obtain ⟨j, rfl, hj, rfl, rfl⟩ := hrel
            by_cases hja : j < eargs.length
            · obtain ⟨ga, oa, rfl, hb1, e1⟩ := hzr.get hja
              have ht2 : St.sp ((eargs.take (j + 1)).map Lib.itoa) = St.sp ((eargs.take j).map Lib.itoa) ++ (32 :: Lib.itoa eargs[j]) := by rw [List.take_succ_eq_append_getElem hja, List.map_append, St.sp_app]; simp [St.sp]
              have hsl := St.sp_len (l := eargs.take j) fun z hz => HOK3.out z (List.mem_of_mem_take hz)
              rw [List.length_take] at hsl
              have hss := HOK3.out eargs[j] (List.getElem_mem _)
              have q0 := e1 0 _ rfl
              rw [Nat.add_zero, Nat.mul_one] at q0
              obtain ⟨z, hv⟩ : ∃ v, eargs[j] = v := ⟨_, rfl⟩
              rw [hv] at q0 ht2 hss
              have y5 : (j : Int) < (eargs.length : Int) := by omega
              have y6 : (0 : Int) ≤ (j : Int) := by omega
              have hil2 := St.itoa_len hss
              have HI2 := Lib.hid (fun W => rnum_any z hss W)
              obtain ⟨s, hs⟩ : ∃ s, Lib.itoa z = s := ⟨_, rfl⟩
              simp only [hs] at HI2 ht2 hil2
              obtain ⟨T3, hT3⟩ : ∃ T, T2 ++ [32, 116, 111, 32] ++ TI ++ St.sp ((eargs.take j).map Lib.itoa) = T := ⟨_, rfl⟩
              have hTl : T3.length ≤ 3000000 := by rw [← hT3, List.length_append, List.length_append, List.length_append]; simp at hsl ⊢; omega
              have ht3 : T2 ++ [32, 116, 111, 32] ++ TI ++ St.sp ((eargs.take (j + 1)).map Lib.itoa) = T3 ++ [32] ++ s := by rw [ht2, ← hT3]; simp
              rw [hT3]
              have x5 : ¬ 9223372036854775807 < T3.length + 1 := by omega
              have x6 : ¬ 9223372036854775807 < T3.length + 1 + s.length := by omega
              have HE3 : Hid (ByteArray.mk T3.toArray ++ ByteArray.mk #[32] ++ ByteArray.mk s.toArray = ByteArray.mk (T3 ++ [32] ++ s).toArray) := Lib.hid (by apply ByteArray.ext; simp)
              have HT3 := Lib.hid ht3
              clear hs ht2 ht3 hT3 hv e1 hss hsl
              go_wp2_with (go_at_call 25; refine (HI2.out _).mono ?_; rintro e w1 ⟨rfl, rfl⟩)
              go_roundw
              case rel => exact ⟨j + 1, by go_num, by omega, by rw [HT3.out]; exact congrArg Value.string HE3.out, by trivial⟩
              case measure => simp [intOf]; omega
            · have hj2 : j = eargs.length := by omega
              subst hj2
              rw [List.take_length, ← HST.out]
              have y5 : ¬ (eargs.length : Int) < (eargs.length : Int) := by omega
              go_wp2
              go_roundw
              case rel => exact ⟨i + 1, by go_num, by omega, rfl, by trivial⟩
              case measure => simp [intOf]; omega
        · have hi2 : i = edges.length := by omega
          subst hi2
          rw [List.take_length] at hel ⊢
          obtain ⟨T2, hT2⟩ : ∃ y, T1 ++ edges.flatMap St.edR = y := ⟨_, rfl⟩
          have hT2l : T2.length ≤ 2000000 := by rw [← hT2, List.length_append]; omega
          rw [hT2]
          have x0 : ¬ (edges.length : Int) < (edges.length : Int) := by omega
          have x3 : ¬ 9223372036854775807 < T2.length + TT.length := by omega
          have x4 : ¬ 9223372036854775807 < T2.length + TT.length + 1 := by omega
          have HE2 : Hid (ByteArray.mk T2.toArray ++ ByteArray.mk TT.toArray ++ ByteArray.mk #[10] = ByteArray.mk (T2 ++ TT ++ [10]).toArray) := Lib.hid (by apply ByteArray.ext; simp)
          have HT2 := Lib.hid hT2
          clear hT2
          go_wp2_with (go_at_call 62; with_reducible refine (HTR.out _).mono ?_; rintro e w1 ⟨rfl, rfl⟩)
          go_ret
          refine ⟨?_, B0⟩
          refine congrArg (fun s => Ending.returned (.string s)) (HE2.out.trans ?_)
          rw [← HT2.out, ← HT1.out]
          simp
    · skip
      go_simp
      (with_reducible refine (HOF.out _ (h1.onB B1)).mono ?_; rintro e w3 ⟨rfl, rfl⟩)
      (try dsimp only)
      refine hK.out _ _ ?_ (fun hHeld3 => ?_)
      · first | trivial | ((try dsimp only); first | assumption | trivial | go_keep)
      clear hK K hHeld2
      (try simp only [Act.put, List.setIfInBounds_toArray, List.set_cons_succ, List.set_cons_zero])
      refine wpAnyH_ready (rs := [4]) (by kernel_rfl) (by simp) ?_
      refine (AllReadyH.cons (o := ⟨some 10, .load 9 (.tmp 9), 9, "ref.go:69", #[⟨3, .data⟩], none⟩) rfl (fun K hK => ?_) AllReadyH.nil)
      go_simp
      skip
      (try dsimp only)
      refine hK.out _ _ ?_ (fun hHeld4 => ?_)
      · first | trivial | ((try dsimp only); first | assumption | trivial | go_keep)
      clear hK K hHeld3
      (try simp only [Act.put, List.setIfInBounds_toArray, List.set_cons_succ, List.set_cons_zero])
      refine tk (i := 5) (oi := ⟨some 11, .binOp .add 9 (.const (.string { data := #[32, 32, 101, 110, 100, 32] })) (.tmp 10) 9, 9, "ref.go:69", #[⟨4, .data⟩], none⟩) rfl ?_; (try simp only [Act.put, List.setIfInBounds_toArray, List.set_cons_succ, List.set_cons_zero])
      refine tk (i := 9) (oi := ⟨some 15, .binOp .add 9 (.tmp 11) (.tmp 14) 9, 9, "ref.go:69", #[⟨5, .data⟩, ⟨8, .data⟩], none⟩) rfl ?_; (try simp only [Act.put, List.setIfInBounds_toArray, List.set_cons_succ, List.set_cons_zero])
      refine tk (i := 13) (oi := ⟨some 19, .binOp .add 9 (.tmp 15) (.tmp 18) 9, 9, "ref.go:69", #[⟨9, .data⟩, ⟨12, .data⟩], none⟩) rfl ?_; (try simp only [Act.put, List.setIfInBounds_toArray, List.set_cons_succ, List.set_cons_zero])
      refine tk (i := 14) (oi := ⟨some 3, .assign (.tmp 19), 9, "ref.go:69", #[⟨13, .data⟩, ⟨12, .chain⟩, ⟨0, .phase⟩, ⟨1, .phase⟩, ⟨2, .phase⟩, ⟨3, .phase⟩, ⟨4, .phase⟩, ⟨5, .phase⟩, ⟨6, .phase⟩, ⟨7, .phase⟩, ⟨8, .phase⟩, ⟨9, .phase⟩, ⟨10, .phase⟩, ⟨11, .phase⟩, ⟨12, .phase⟩, ⟨13, .phase⟩], none⟩) rfl ?_; (try simp only [Act.put, List.setIfInBounds_toArray, List.set_cons_succ, List.set_cons_zero])
      refine wpAnyH_done (by kernel_rfl) ?_ _
      rw [HE1.out]
      go_upto_region 2 with fail
      refine at_code (F := fun W => Var W w.heap.size #[.int .i64 (k : Int), .int .i64 cond, .slice A1 args.length c1, .slice A2 edges.length c2, .int .i64 trap] 42 ∧ Below w.heap.size w W) ⟨V1, B1⟩ ?_
      clear V0 V1 B0 B1 S0 S0' S1 hrd hb1 f0 hc hg
      rintro w0 ⟨V0, B0⟩
      obtain ⟨y0, y1, y2, y3, y4⟩ := cells5 V0
      have hE := h2.edgeOn B0
      go_wp2
      go_loopw [3, 4] (fun sv iv wr => ∃ i : Nat, iv = .int .i64 (i : Int) ∧ i ≤ edges.length ∧ sv = .string ⟨(T1 ++ (edges.take i).flatMap St.edR).toArray⟩ ∧ wr = w0) (fun _ iv _ => edges.length - (intOf iv).toNat)
      case atStart => exact ⟨0, rfl, by omega, by simp, rfl⟩
      case round =>
        obtain ⟨i, rfl, hi, rfl, rfl⟩ := hrel
        have hel := HEL.out i
        by_cases hia : i < edges.length
        · obtain ⟨g, o, rfl, hsg, hg, he⟩ := hE.get hia
          have hst : (edges.take (i + 1)).flatMap St.edR = (edges.take i).flatMap St.edR ++ St.edR edges[i] := by rw [List.take_succ_eq_append_getElem hia, List.flatMap_append]; simp
          have hok := HZ2.out edges[i] (List.getElem_mem _)
          obtain ⟨⟨tgt, eargs⟩, hev⟩ : ∃ e, edges[i] = e := ⟨_, rfl⟩
          rw [hev] at he hok hst
          obtain ⟨f0, Ae, ce, f1, hz⟩ := he
          obtain ⟨ok1, ok2, ok3⟩ := hok
          dsimp only at f0 f1 hz ok1 ok2 ok3 hst
          have HI := Lib.hid (fun W => rnum_any tgt ok1 W)
          have hil := St.itoa_len ok1
          obtain ⟨TI, hti⟩ : ∃ y, Lib.itoa tgt = y := ⟨_, rfl⟩
          have hed : St.edR ⟨tgt, eargs⟩ = [32, 116, 111, 32] ++ Lib.itoa tgt ++ St.sp (eargs.map Lib.itoa) := rfl
          rw [hti] at HI hil hed
          rw [hed] at hst
          obtain ⟨T2, hT2⟩ : ∃ y, T1 ++ (edges.take i).flatMap St.edR = y := ⟨_, rfl⟩
          have hT2l : T2.length ≤ 2000000 := by rw [← hT2, List.length_append]; omega
          rw [hT2]
          have hst2 : T1 ++ (edges.take (i + 1)).flatMap St.edR = T2 ++ [32, 116, 111, 32] ++ TI ++ St.sp (eargs.map Lib.itoa) := by rw [hst, ← hT2]; simp
          have x0 : (i : Int) < (edges.length : Int) := by omega
          have x2 : (0 : Int) ≤ (i : Int) := by omega
          have x3 : ¬ 9223372036854775807 < T2.length + 4 := by omega
          have x4 : ¬ 9223372036854775807 < T2.length + 4 + TI.length := by omega
          have HE2 : Hid (ByteArray.mk T2.toArray ++ ByteArray.mk #[32, 116, 111, 32] ++ ByteArray.mk TI.toArray = ByteArray.mk (T2 ++ [32, 116, 111, 32] ++ TI ++ St.sp ((eargs.take 0).map Lib.itoa)).toArray) := Lib.hid (by apply ByteArray.ext; simp [St.sp])
          have HST := Lib.hid hst2
          have HOK3 := Lib.hid ok3
          have hzr := hz.rds
          clear hst hst2 hti hed hT2 hev ok3 ok1 hz
          go_wp2_with (go_at_call 25; refine (HI.out _).mono ?_; rintro e w1 ⟨rfl, rfl⟩)
          go_loopw [3, 5] (fun sv kv wq => ∃ j : Nat, kv = .int .i64 (j : Int) ∧ j ≤ eargs.length ∧ sv = .string ⟨(T2 ++ [32, 116, 111, 32] ++ TI ++ St.sp ((eargs.take j).map Lib.itoa)).toArray⟩ ∧ wq = wr) (fun _ kv _ => eargs.length - (intOf kv).toNat)
          case atStart => exact ⟨0, rfl, by omega, congrArg Value.string HE2.out, rfl⟩
          case round =>
            obtain ⟨j, rfl, hj, rfl, rfl⟩ := hrel
            by_cases hja : j < eargs.length
            · obtain ⟨ga, oa, rfl, hb1, e1⟩ := hzr.get hja
              have ht2 : St.sp ((eargs.take (j + 1)).map Lib.itoa) = St.sp ((eargs.take j).map Lib.itoa) ++ (32 :: Lib.itoa eargs[j]) := by rw [List.take_succ_eq_append_getElem hja, List.map_append, St.sp_app]; simp [St.sp]
              have hsl := St.sp_len (l := eargs.take j) fun z hz => HOK3.out z (List.mem_of_mem_take hz)
              rw [List.length_take] at hsl
              have hss := HOK3.out eargs[j] (List.getElem_mem _)
              have q0 := e1 0 _ rfl
              rw [Nat.add_zero, Nat.mul_one] at q0
              obtain ⟨z, hv⟩ : ∃ v, eargs[j] = v := ⟨_, rfl⟩
              rw [hv] at q0 ht2 hss
              have y5 : (j : Int) < (eargs.length : Int) := by omega
              have y6 : (0 : Int) ≤ (j : Int) := by omega
              have hil2 := St.itoa_len hss
              have HI2 := Lib.hid (fun W => rnum_any z hss W)
              obtain ⟨s, hs⟩ : ∃ s, Lib.itoa z = s := ⟨_, rfl⟩
              simp only [hs] at HI2 ht2 hil2
              obtain ⟨T3, hT3⟩ : ∃ T, T2 ++ [32, 116, 111, 32] ++ TI ++ St.sp ((eargs.take j).map Lib.itoa) = T := ⟨_, rfl⟩
              have hTl : T3.length ≤ 3000000 := by rw [← hT3, List.length_append, List.length_append, List.length_append]; simp at hsl ⊢; omega
              have ht3 : T2 ++ [32, 116, 111, 32] ++ TI ++ St.sp ((eargs.take (j + 1)).map Lib.itoa) = T3 ++ [32] ++ s := by rw [ht2, ← hT3]; simp
              rw [hT3]
              have x5 : ¬ 9223372036854775807 < T3.length + 1 := by omega
              have x6 : ¬ 9223372036854775807 < T3.length + 1 + s.length := by omega
              have HE3 : Hid (ByteArray.mk T3.toArray ++ ByteArray.mk #[32] ++ ByteArray.mk s.toArray = ByteArray.mk (T3 ++ [32] ++ s).toArray) := Lib.hid (by apply ByteArray.ext; simp)
              have HT3 := Lib.hid ht3
              clear hs ht2 ht3 hT3 hv e1 hss hsl
              go_wp2_with (go_at_call 25; refine (HI2.out _).mono ?_; rintro e w1 ⟨rfl, rfl⟩)
              go_roundw
              case rel => exact ⟨j + 1, by go_num, by omega, by rw [HT3.out]; exact congrArg Value.string HE3.out, by trivial⟩
              case measure => simp [intOf]; omega
            · have hj2 : j = eargs.length := by omega
              subst hj2
              rw [List.take_length, ← HST.out]
              have y5 : ¬ (eargs.length : Int) < (eargs.length : Int) := by omega
              go_wp2
              go_roundw
              case rel => exact ⟨i + 1, by go_num, by omega, rfl, by trivial⟩
              case measure => simp [intOf]; omega
        · have hi2 : i = edges.length := by omega
          subst hi2
          rw [List.take_length] at hel ⊢
          obtain ⟨T2, hT2⟩ : ∃ y, T1 ++ edges.flatMap St.edR = y := ⟨_, rfl⟩
          have hT2l : T2.length ≤ 2000000 := by rw [← hT2, List.length_append]; omega
          rw [hT2]
          have x0 : ¬ (edges.length : Int) < (edges.length : Int) := by omega
          have x3 : ¬ 9223372036854775807 < T2.length + TT.length := by omega
          have x4 : ¬ 9223372036854775807 < T2.length + TT.length + 1 := by omega
          have HE2 : Hid (ByteArray.mk T2.toArray ++ ByteArray.mk TT.toArray ++ ByteArray.mk #[10] = ByteArray.mk (T2 ++ TT ++ [10]).toArray) := Lib.hid (by apply ByteArray.ext; simp)
          have HT2 := Lib.hid hT2
          clear hT2
          go_wp2_with (go_at_call 62; with_reducible refine (HTR.out _).mono ?_; rintro e w1 ⟨rfl, rfl⟩)
          go_ret
          refine ⟨?_, B0⟩
          refine congrArg (fun s => Ending.returned (.string s)) (HE2.out.trans ?_)
          rw [← HT2.out, ← HT1.out]
          simp
end Go.Proofs.YtmhmpobjjhbklaaGreatDoor
