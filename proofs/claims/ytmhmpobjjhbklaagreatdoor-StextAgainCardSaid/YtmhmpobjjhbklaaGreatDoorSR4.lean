/-
  Layer 40, the reference: May. (Printed by gen_sr4.py.)
-/
import Derived.Test.YtmhmpobjjhbklaaGreatDoorTk
import Derived.Test.YtmhmpobjjhbklaaGreatDoorSR3
set_option linter.unusedVariables false
set_option linter.unusedSimpArgs false
namespace Go.Proofs.YtmhmpobjjhbklaaGreatDoor
namespace St
theorem word_ok {l : List (List UInt8)} (k : Int) : (word l k).2 = (decide (0 ≤ k) && decide (k < l.length)) := by
  unfold word
  by_cases h0 : 0 ≤ k <;> by_cases h1 : k < l.length <;> simp [h0, h1]
end St
open Go.RowKit
open St (InR)
theorem keep3 {w w' : World} {a b c : Addr} {x y z : Value} (h : w.cell? a = some x ∧ w.cell? b = some y ∧ w.cell? c = some z) (hb : Below w.heap.size w w') : w'.cell? a = some x ∧ w'.cell? b = some y ∧ w'.cell? c = some z :=
  ⟨(Below.keep hb (fun _ => True)) _ _ trivial h.1, (Below.keep hb (fun _ => True)) _ _ trivial h.2.1, (Below.keep hb (fun _ => True)) _ _ trivial h.2.2⟩

set_option maxHeartbeats 16000000 in
set_option maxRecDepth 100000 in
theorem rmay_any (x : St.Ssa) (hx : x.Ok) (S : Nat → Prop) (P R V B : Option Addr) (c1 c2 c3 c4 : Nat) (w : World) (h : SsaAt S w x P R V B) :
    Calls Tryz.prog 14 #[ssaV x P c1 R c2 V c3 B c4] w fun e w' => e = .returned (.bool (St.may x)) ∧ Below w.heap.size w w' := by
  unfold ssaV
  obtain ⟨ps, rs, vals, blocks⟩ := x
  obtain ⟨m1, m2, m3, m4, m5⟩ := hx
  obtain ⟨r1, r2, r3, r4⟩ := h
  dsimp only at *
  have hkl : St.kindW.length = 20 := by decide +kernel
  have hel : St.endW.length = 5 := by decide +kernel
  obtain ⟨M, hM⟩ : ∃ b, St.may ⟨ps, rs, vals, blocks⟩ = b := ⟨_, rfl⟩
  have hM0 : M = (ps.all Ty.val && (rs.all Ty.val && (vals.all Ty.val && blocks.all St.blkMay))) := hM.symm
  have HB0 := (Below.refl w.heap.size w).alloc (Nat.le_refl _) (.cells #[.slice P ps.length c1, .slice R rs.length c2, .slice V vals.length c3, .slice B blocks.length c4] 27)
  have HV1 := Lib.hid (rvals_any P c1 _ ps rfl (by omega) (w.alloc (.cells #[.slice P ps.length c1, .slice R rs.length c2, .slice V vals.length c3, .slice B blocks.length c4] 27)) (r1.on' HB0).rds)
  have HV2 := Lib.hid (rvals_any R c2 _ rs rfl (by omega) (w.alloc (.cells #[.slice P ps.length c1, .slice R rs.length c2, .slice V vals.length c3, .slice B blocks.length c4] 27)) (r2.on' HB0).rds)
  have HV3 := Lib.hid (rvals_any V c3 _ vals rfl (by omega) (w.alloc (.cells #[.slice P ps.length c1, .slice R rs.length c2, .slice V vals.length c3, .slice B blocks.length c4] 27)) (r3.on' HB0).rds)
  have HB4 := Lib.hid (fun W (hb : Below w.heap.size w W) => RdT.blkOn r4 hb)
  have HM := Lib.hid hM
  have HM5 := Lib.hid m5
  clear r1 r2 r3 r4 hM m5
  rcases hp : ps.all Ty.val with _ | _
  · rw [hp] at HV1 hM0
    have HF : Hid (M = false) := Lib.hid (by rw [hM0]; rfl)
    clear hM0 hp HB0
    go_enter Tryz.func14, Tryz.ntmps14
    go_wp2_with (go_at_call 41; with_reducible refine HV1.out.mono ?_; rintro e w1 ⟨rfl, rfl⟩)
    go_ret
    exact ⟨by rw [HM.out, HF.out]; rfl, (Below.refl _ w).alloc (Nat.le_refl _) _⟩
  rcases hr : rs.all Ty.val with _ | _
  · rw [hp] at HV1 hM0
    rw [hr] at HV2 hM0
    have HF : Hid (M = false) := Lib.hid (by rw [hM0]; rfl)
    clear hM0 hp hr HB0
    go_enter Tryz.func14, Tryz.ntmps14
    go_wp2_with (go_at_call 41; first | (with_reducible refine HV1.out.mono ?_; clear HV1; rintro e w1 ⟨rfl, rfl⟩) | (with_reducible refine HV2.out.mono ?_; rintro e w1 ⟨rfl, rfl⟩))
    go_ret
    exact ⟨by rw [HM.out, HF.out]; rfl, (Below.refl _ w).alloc (Nat.le_refl _) _⟩
  rcases hv : vals.all Ty.val with _ | _
  · rw [hp] at HV1 hM0
    rw [hr] at HV2 hM0
    rw [hv] at HV3 hM0
    have HF : Hid (M = false) := Lib.hid (by rw [hM0]; rfl)
    clear hM0 hp hr hv HB0
    go_enter Tryz.func14, Tryz.ntmps14
    go_wp2_with (go_at_call 41; first | (with_reducible refine HV1.out.mono ?_; clear HV1; rintro e w1 ⟨rfl, rfl⟩) | (with_reducible refine HV2.out.mono ?_; clear HV2; rintro e w1 ⟨rfl, rfl⟩) | (with_reducible refine HV3.out.mono ?_; rintro e w1 ⟨rfl, rfl⟩))
    go_ret
    exact ⟨by rw [HM.out, HF.out]; rfl, (Below.refl _ w).alloc (Nat.le_refl _) _⟩
  rw [hp] at HV1 hM0
  rw [hr] at HV2 hM0
  rw [hv] at HV3 hM0
  have HM0 : Hid (M = blocks.all St.blkMay) := Lib.hid (by rw [hM0]; rfl)
  clear hM0 hp hr hv HB0
  go_enter Tryz.func14, Tryz.ntmps14
  go_upto_region 3 with (go_at_call 41; first | (with_reducible refine HV1.out.mono ?_; clear HV1; rintro e w1 ⟨rfl, rfl⟩) | (with_reducible refine HV2.out.mono ?_; clear HV2; rintro e w1 ⟨rfl, rfl⟩) | (with_reducible refine HV3.out.mono ?_; rintro e w1 ⟨rfl, rfl⟩))
  refine at_code (F := fun W => Var W w.heap.size #[.slice P ps.length c1, .slice R rs.length c2, .slice V vals.length c3, .slice B blocks.length c4] 27 ∧ Below w.heap.size w W) ⟨Var.new w _ _, (Below.refl _ w).alloc (Nat.le_refl _) _⟩ ?_
  (try clear HV3)
  rintro w0 ⟨V0, B0⟩
  go_wp2
  go_loopw [3] (fun iv wr => ∃ i : Nat, iv = .int .i64 (i : Int) ∧ i ≤ blocks.length ∧ Hid (Var wr w.heap.size #[.slice P ps.length c1, .slice R rs.length c2, .slice V vals.length c3, .slice B blocks.length c4] 27) ∧ Hid (Below w.heap.size w wr) ∧ Hid (M = (blocks.drop i).all St.blkMay)) (fun iv _ => blocks.length - (intOf iv).toNat)
  case atStart => exact ⟨0, rfl, by omega, Lib.hid V0, Lib.hid B0, HM0⟩
  case round =>
    clear V0 B0
    obtain ⟨i, rfl, hi, V0, B0, HRi⟩ := hrel
    obtain ⟨y0, y1, y2, y3⟩ := cells4 V0.out
    by_cases hia : i < blocks.length
    · obtain ⟨g, o, rfl, hsg, hg, hblk⟩ := (HB4.out _ B0.out).get hia
      have hdi : blocks.drop i = blocks[i] :: blocks.drop (i + 1) := List.drop_eq_getElem_cons hia
      have hok := HM5.out blocks[i] (List.getElem_mem _)
      obtain ⟨b, hbv⟩ : ∃ b, blocks[i] = b := ⟨_, rfl⟩
      rw [hbv] at hblk hdi hok
      obtain ⟨Ap, cp, Ai, ci, Aa, ca, At, ct, ⟨q0, q1, q2, q3, q4, q5, q6⟩, p1, p2, p3, p4⟩ := hblk.seven
      obtain ⟨params, ins, fin⟩ := b
      obtain ⟨fk, fc, fa, fe, ft⟩ := fin
      dsimp only at q0 q1 q2 q3 q4 q5 q6 p1 p2 p3 p4
      obtain ⟨hil, hio⟩ := hok.ins
      dsimp only at hil hio
      have x0 : (i : Int) < (blocks.length : Int) := by omega
      have x2 : (0 : Int) ≤ (i : Int) := by omega
      have HIN : Hid (M = (ins.all St.insMay && ((St.word St.endW fk).2 && (blocks.drop (i + 1)).all St.blkMay))) := Lib.hid (by rw [HRi.out, hdi, List.all_cons, St.blkMay, Bool.and_assoc])
      have HP2 := Lib.hid p2
      have HB1 := Lib.hid ((Below.refl wr.heap.size wr).alloc (Nat.le_refl _) (.cells #[.slice Ap params.length cp, .slice Ai ins.length ci, .int .i64 fk, .int .i64 fc, .slice Aa fa.length ca, .slice At fe.length ct, .int .i64 ft] 44))
      clear hdi hbv hblk hok p1 p3 p4 p2
      obtain ⟨K, hK⟩ : ∃ K, wr.heap.size = K := ⟨_, rfl⟩
      have HK0 := Lib.hid hK
      clear hK
      go_upto_region 7 with fail
      have hK := HK0.out
      refine at_code (F := fun W => Hid (Var W K #[.slice Ap params.length cp, .slice Ai ins.length ci, .int .i64 fk, .int .i64 fc, .slice Aa fa.length ca, .slice At fe.length ct, .int .i64 ft] 44) ∧ Hid (Var W w.heap.size #[.slice P ps.length c1, .slice R rs.length c2, .slice V vals.length c3, .slice (some ⟨g, o, none⟩) blocks.length c4] 27) ∧ Hid (RdT W S Ai 7 (InsAt S) ins) ∧ Hid (Below w.heap.size w W)) ⟨Lib.hid (Var.newE _ _ _ hK), Lib.hid (V0.out.alloc _), Lib.hid (HP2.out.insOn HB1.out), Lib.hid (B0.out.trans (HB1.out.mono B0.out.size))⟩ ?_
      simp only [hK]
      clear V0 B0 HP2 HB1 q0 q1 q2 q3 q4 q5 q6 hg y0 y1 y2 y3
      clear hK HK0
      rintro w1 ⟨VK, V0, hin, B0⟩
      go_wp2
      go_loopw [5] (fun jv wq => ∃ j : Nat, jv = .int .i64 (j : Int) ∧ j ≤ ins.length ∧ Hid (Var wq K #[.slice Ap params.length cp, .slice Ai ins.length ci, .int .i64 fk, .int .i64 fc, .slice Aa fa.length ca, .slice At fe.length ct, .int .i64 ft] 44) ∧ Hid (Var wq w.heap.size #[.slice P ps.length c1, .slice R rs.length c2, .slice V vals.length c3, .slice (some ⟨g, o, none⟩) blocks.length c4] 27) ∧ Hid (RdT wq S Ai 7 (InsAt S) ins) ∧ Hid (Below w.heap.size w wq) ∧ Hid (M = ((ins.drop j).all St.insMay && ((St.word St.endW fk).2 && (blocks.drop (i + 1)).all St.blkMay)))) (fun jv _ => ins.length - (intOf jv).toNat)
      case atStart => exact ⟨0, rfl, by omega, VK, V0, hin, B0, HIN⟩
      case round =>
        clear VK V0 hin B0
        obtain ⟨j, rfl, hj, VK, V0, hin, B0, HRj⟩ := hrel
        obtain ⟨t0, t1, t2, t3, t4, t5, t6⟩ := cells7 VK.out
        by_cases hja : j < ins.length
        · obtain ⟨gi, oi, rfl, hsi, hgi, d0, d1, -⟩ := hin.out.get hja
          have hdk : ins.drop j = ins[j] :: ins.drop (j + 1) := List.drop_eq_getElem_cons hja
          obtain ⟨y, hyv⟩ : ∃ y, ins[j] = y := ⟨_, rfl⟩
          rw [hyv] at d0 d1 hdk
          obtain ⟨ik, iop, ia, ib, inn, iar, iou⟩ := y
          dsimp only at d0 d1
          have hH : M = (St.insMay ⟨ik, iop, ia, ib, inn, iar, iou⟩ && ((ins.drop (j + 1)).all St.insMay && ((St.word St.endW fk).2 && (blocks.drop (i + 1)).all St.blkMay))) := by rw [HRj.out, hdk, List.all_cons, Bool.and_assoc]
          unfold St.insMay at hH
          dsimp only at hH
          rw [St.word_ok, hkl] at hH
          have y0 : (j : Int) < (ins.length : Int) := by omega
          have y2 : (0 : Int) ≤ (j : Int) := by omega
          have HKN := Lib.hid (fun W => rknown5_any iop W)
          obtain ⟨nk, hnk⟩ : ∃ b, Opc.known iop = b := ⟨_, rfl⟩
          rw [hnk] at HKN hH
          have S00 := Lib.hid (And.intro t1 (And.intro d0 d1))
          have HH := Lib.hid hH
          clear hH hnk hdk hyv t0 t2 t3 t4 t5 t6 d0 d1
          go_upto_region 10 with fail
          clear t1
          by_cases k0 : ik < 0
          · have k1 : decide (ik < 0) = true := by simpa using k0
            have HF : Hid (M = false) := Lib.hid (by rw [HH.out, show decide (0 ≤ ik) = false from by simpa using k0]; rfl)
            clear k0
            have S0 := S00.out
            have S0' : (fun W => W.cell? ⟨K, 1, none⟩ = some (.slice (some ⟨gi, oi, none⟩) ins.length ci) ∧ W.cell? ⟨gi, oi + j * 7, none⟩ = some (.int .i64 ik) ∧ W.cell? ⟨gi, oi + j * 7 + 1, none⟩ = some (.int .i64 iop)) (World.drew wr) := S0
            dsimp only at S0'
            refine wp_region_held_drew (S := (fun W => W.cell? ⟨K, 1, none⟩ = some (.slice (some ⟨gi, oi, none⟩) ins.length ci) ∧ W.cell? ⟨gi, oi + j * 7, none⟩ = some (.int .i64 ik) ∧ W.cell? ⟨gi, oi + j * 7 + 1, none⟩ = some (.int .i64 iop))) (by kernel_rfl) ?_ (fun hHeld0 => ?_)
            · first | assumption | go_keep
            refine tk (i := 0) (oi := ⟨some 43, .fieldAddr 44 (.tmp 4) 1, 0, "ref.go:97", #[], none⟩) rfl ?_; (try simp only [Act.put, List.setIfInBounds_toArray, List.set_cons_succ, List.set_cons_zero])
            refine tk (i := 1) (oi := ⟨some 44, .load 38 (.tmp 43), 38, "ref.go:97", #[⟨0, .data⟩], none⟩) rfl ?_; (try simp only [Act.put, List.setIfInBounds_toArray, List.set_cons_succ, List.set_cons_zero])
            refine tk (i := 2) (oi := ⟨some 45, .move (.tmp 5), 3, "ref.go:97", #[], none⟩) rfl ?_; (try simp only [Act.put, List.setIfInBounds_toArray, List.set_cons_succ, List.set_cons_zero])
            refine tk (i := 3) (oi := ⟨some 46, .indexAddr 38 (.tmp 44) (.tmp 45), 0, "ref.go:97", #[⟨1, .data⟩, ⟨2, .data⟩], none⟩) rfl ?_; (try simp only [Act.put, List.setIfInBounds_toArray, List.set_cons_succ, List.set_cons_zero])
            refine tk (i := 4) (oi := ⟨some 47, .fieldAddr 48 (.tmp 46) 0, 0, "ref.go:97", #[⟨3, .data⟩], none⟩) rfl ?_; (try simp only [Act.put, List.setIfInBounds_toArray, List.set_cons_succ, List.set_cons_zero])
            refine tk (i := 5) (oi := ⟨some 48, .load 3 (.tmp 47), 3, "ref.go:97", #[⟨4, .data⟩], none⟩) rfl ?_; (try simp only [Act.put, List.setIfInBounds_toArray, List.set_cons_succ, List.set_cons_zero])
            refine tk (i := 6) (oi := ⟨some 49, .binOp .lss 3 (.tmp 48) (.const (.int .i64 0)) 3, 4, "ref.go:97", #[⟨5, .data⟩], none⟩) rfl ?_; (try simp only [Act.put, List.setIfInBounds_toArray, List.set_cons_succ, List.set_cons_zero])
            refine tk (i := 7) (oi := ⟨some 50, .move (.tmp 49), 4, "ref.go:97", #[⟨6, .data⟩], none⟩) rfl ?_; (try simp only [Act.put, List.setIfInBounds_toArray, List.set_cons_succ, List.set_cons_zero])
            refine tkN (i := 8) (oi := ⟨some 51, .fieldAddr 44 (.tmp 4) 1, 0, "ref.go:97", #[⟨7, .guard⟩], some (7, false)⟩) rfl ?_; (try simp only [Act.put, List.setIfInBounds_toArray, List.set_cons_succ, List.set_cons_zero])
            refine tkN (i := 9) (oi := ⟨some 52, .load 38 (.tmp 51), 38, "ref.go:97", #[⟨8, .data⟩, ⟨7, .guard⟩], some (7, false)⟩) rfl ?_; (try simp only [Act.put, List.setIfInBounds_toArray, List.set_cons_succ, List.set_cons_zero])
            refine tkN (i := 10) (oi := ⟨some 53, .move (.tmp 5), 3, "ref.go:97", #[⟨7, .guard⟩], some (7, false)⟩) rfl ?_; (try simp only [Act.put, List.setIfInBounds_toArray, List.set_cons_succ, List.set_cons_zero])
            refine tkN (i := 11) (oi := ⟨some 54, .indexAddr 38 (.tmp 52) (.tmp 53), 0, "ref.go:97", #[⟨9, .data⟩, ⟨10, .data⟩, ⟨7, .guard⟩], some (7, false)⟩) rfl ?_; (try simp only [Act.put, List.setIfInBounds_toArray, List.set_cons_succ, List.set_cons_zero])
            refine tkN (i := 12) (oi := ⟨some 55, .fieldAddr 48 (.tmp 54) 0, 0, "ref.go:97", #[⟨11, .data⟩, ⟨7, .guard⟩], some (7, false)⟩) rfl ?_; (try simp only [Act.put, List.setIfInBounds_toArray, List.set_cons_succ, List.set_cons_zero])
            refine tkN (i := 13) (oi := ⟨some 56, .load 3 (.tmp 55), 3, "ref.go:97", #[⟨12, .data⟩, ⟨7, .guard⟩], some (7, false)⟩) rfl ?_; (try simp only [Act.put, List.setIfInBounds_toArray, List.set_cons_succ, List.set_cons_zero])
            refine tkN (i := 14) (oi := ⟨some 57, .call { callee := .value (.func 42), args := #[], argTypes := #[] }, 54, "ref.go:97", #[⟨7, .chain⟩, ⟨7, .guard⟩], some (7, false)⟩) rfl ?_; (try simp only [Act.put, List.setIfInBounds_toArray, List.set_cons_succ, List.set_cons_zero])
            refine tkN (i := 15) (oi := ⟨some 58, .call { callee := .builtin .len, args := #[.tmp 57], argTypes := #[54] }, 3, "ref.go:97", #[⟨14, .data⟩, ⟨7, .guard⟩], some (7, false)⟩) rfl ?_; (try simp only [Act.put, List.setIfInBounds_toArray, List.set_cons_succ, List.set_cons_zero])
            refine tkN (i := 16) (oi := ⟨some 59, .binOp .geq 3 (.tmp 56) (.tmp 58) 3, 4, "ref.go:97", #[⟨13, .data⟩, ⟨15, .data⟩, ⟨7, .guard⟩], some (7, false)⟩) rfl ?_; (try simp only [Act.put, List.setIfInBounds_toArray, List.set_cons_succ, List.set_cons_zero])
            refine tk (i := 17) (oi := ⟨some 60, .pick (.tmp 50) (.const (.bool true)) (.tmp 59), 4, "ref.go:97", #[⟨7, .data⟩, ⟨16, .data⟩], none⟩) rfl ?_; (try simp only [Act.put, List.setIfInBounds_toArray, List.set_cons_succ, List.set_cons_zero])
            refine tk (i := 18) (oi := ⟨some 61, .move (.tmp 60), 4, "ref.go:97", #[⟨17, .data⟩, ⟨14, .chain⟩], none⟩) rfl ?_; (try simp only [Act.put, List.setIfInBounds_toArray, List.set_cons_succ, List.set_cons_zero])
            refine tkN (i := 19) (oi := ⟨some 62, .fieldAddr 44 (.tmp 4) 1, 0, "ref.go:97", #[⟨18, .guard⟩], some (18, false)⟩) rfl ?_; (try simp only [Act.put, List.setIfInBounds_toArray, List.set_cons_succ, List.set_cons_zero])
            refine tkN (i := 20) (oi := ⟨some 63, .load 38 (.tmp 62), 38, "ref.go:97", #[⟨19, .data⟩, ⟨18, .guard⟩], some (18, false)⟩) rfl ?_; (try simp only [Act.put, List.setIfInBounds_toArray, List.set_cons_succ, List.set_cons_zero])
            refine tkN (i := 21) (oi := ⟨some 64, .move (.tmp 5), 3, "ref.go:97", #[⟨18, .guard⟩], some (18, false)⟩) rfl ?_; (try simp only [Act.put, List.setIfInBounds_toArray, List.set_cons_succ, List.set_cons_zero])
            refine tkN (i := 22) (oi := ⟨some 65, .indexAddr 38 (.tmp 63) (.tmp 64), 0, "ref.go:97", #[⟨20, .data⟩, ⟨21, .data⟩, ⟨18, .guard⟩], some (18, false)⟩) rfl ?_; (try simp only [Act.put, List.setIfInBounds_toArray, List.set_cons_succ, List.set_cons_zero])
            refine tkN (i := 23) (oi := ⟨some 66, .fieldAddr 48 (.tmp 65) 1, 0, "ref.go:97", #[⟨22, .data⟩, ⟨18, .guard⟩], some (18, false)⟩) rfl ?_; (try simp only [Act.put, List.setIfInBounds_toArray, List.set_cons_succ, List.set_cons_zero])
            refine tkN (i := 24) (oi := ⟨some 67, .load 45 (.tmp 66), 45, "ref.go:97", #[⟨23, .data⟩, ⟨18, .guard⟩], some (18, false)⟩) rfl ?_; (try simp only [Act.put, List.setIfInBounds_toArray, List.set_cons_succ, List.set_cons_zero])
            refine tkN (i := 25) (oi := ⟨some 68, .call { callee := .value (.func 43), args := #[.tmp 67], argTypes := #[45] }, 4, "ref.go:97", #[⟨24, .data⟩, ⟨18, .chain⟩, ⟨18, .guard⟩], some (18, false)⟩) rfl ?_; (try simp only [Act.put, List.setIfInBounds_toArray, List.set_cons_succ, List.set_cons_zero])
            refine tkN (i := 26) (oi := ⟨some 69, .unOp .not 4 (.tmp 68), 4, "ref.go:97", #[⟨25, .data⟩, ⟨18, .guard⟩], some (18, false)⟩) rfl ?_; (try simp only [Act.put, List.setIfInBounds_toArray, List.set_cons_succ, List.set_cons_zero])
            refine tk (i := 27) (oi := ⟨some 70, .pick (.tmp 61) (.const (.bool true)) (.tmp 69), 4, "ref.go:97", #[⟨18, .data⟩, ⟨26, .data⟩], none⟩) rfl ?_; (try simp only [Act.put, List.setIfInBounds_toArray, List.set_cons_succ, List.set_cons_zero])
            refine tk (i := 28) (oi := ⟨some 71, .move (.tmp 70), 4, "ref.go:97", #[⟨27, .data⟩, ⟨25, .chain⟩], none⟩) rfl ?_; (try simp only [Act.put, List.setIfInBounds_toArray, List.set_cons_succ, List.set_cons_zero])
            refine tkN (i := 29) (oi := ⟨some 72, .fieldAddr 44 (.tmp 4) 1, 0, "ref.go:97", #[⟨28, .guard⟩], some (28, false)⟩) rfl ?_; (try simp only [Act.put, List.setIfInBounds_toArray, List.set_cons_succ, List.set_cons_zero])
            refine tkN (i := 30) (oi := ⟨some 73, .load 38 (.tmp 72), 38, "ref.go:97", #[⟨29, .data⟩, ⟨28, .guard⟩], some (28, false)⟩) rfl ?_; (try simp only [Act.put, List.setIfInBounds_toArray, List.set_cons_succ, List.set_cons_zero])
            refine tkN (i := 31) (oi := ⟨some 74, .move (.tmp 5), 3, "ref.go:97", #[⟨28, .guard⟩], some (28, false)⟩) rfl ?_; (try simp only [Act.put, List.setIfInBounds_toArray, List.set_cons_succ, List.set_cons_zero])
            refine tkN (i := 32) (oi := ⟨some 75, .indexAddr 38 (.tmp 73) (.tmp 74), 0, "ref.go:97", #[⟨30, .data⟩, ⟨31, .data⟩, ⟨28, .guard⟩], some (28, false)⟩) rfl ?_; (try simp only [Act.put, List.setIfInBounds_toArray, List.set_cons_succ, List.set_cons_zero])
            refine tkN (i := 33) (oi := ⟨some 76, .fieldAddr 48 (.tmp 75) 1, 0, "ref.go:97", #[⟨32, .data⟩, ⟨28, .guard⟩], some (28, false)⟩) rfl ?_; (try simp only [Act.put, List.setIfInBounds_toArray, List.set_cons_succ, List.set_cons_zero])
            refine tkN (i := 34) (oi := ⟨some 77, .load 45 (.tmp 76), 45, "ref.go:97", #[⟨33, .data⟩, ⟨28, .guard⟩], some (28, false)⟩) rfl ?_; (try simp only [Act.put, List.setIfInBounds_toArray, List.set_cons_succ, List.set_cons_zero])
            refine tkN (i := 35) (oi := ⟨some 78, .binOp .eql 45 (.tmp 77) (.const (.int .i64 28)) 45, 4, "ref.go:97", #[⟨34, .data⟩, ⟨28, .guard⟩], some (28, false)⟩) rfl ?_; (try simp only [Act.put, List.setIfInBounds_toArray, List.set_cons_succ, List.set_cons_zero])
            refine tk (i := 36) (oi := ⟨some 79, .pick (.tmp 71) (.const (.bool true)) (.tmp 78), 4, "ref.go:97", #[⟨28, .data⟩, ⟨35, .data⟩], none⟩) rfl ?_; (try simp only [Act.put, List.setIfInBounds_toArray, List.set_cons_succ, List.set_cons_zero])
            refine wpAnyH_done (by kernel_rfl) ?_ _
            go_wp2
            go_ret
            exact ⟨by rw [HM.out, HF.out]; rfl, B0.out.trans ((below_drewN wr _).mono B0.out.size)⟩
          by_cases k9 : ik < 20
          · rcases nk with _ | _
            · have k1 : decide (ik < 0) = false := by simpa using k0
              have k2 : decide ((20 : Int) ≤ ik) = false := by simpa using k9
              have HF : Hid (M = false) := Lib.hid (by rw [HH.out, show decide (0 ≤ ik) = true from by simpa using k0, show decide (ik < ((20 : Nat) : Int)) = true from by simpa using k9]; rfl)
              clear k0 k9
              have S0 := S00.out
              have S0' : (fun W => W.cell? ⟨K, 1, none⟩ = some (.slice (some ⟨gi, oi, none⟩) ins.length ci) ∧ W.cell? ⟨gi, oi + j * 7, none⟩ = some (.int .i64 ik) ∧ W.cell? ⟨gi, oi + j * 7 + 1, none⟩ = some (.int .i64 iop)) (World.drew wr) := S0
              dsimp only at S0'
              refine wp_region_held_drew (S := (fun W => W.cell? ⟨K, 1, none⟩ = some (.slice (some ⟨gi, oi, none⟩) ins.length ci) ∧ W.cell? ⟨gi, oi + j * 7, none⟩ = some (.int .i64 ik) ∧ W.cell? ⟨gi, oi + j * 7 + 1, none⟩ = some (.int .i64 iop))) (by kernel_rfl) ?_ (fun hHeld0 => ?_)
              · first | assumption | go_keep
              refine tk (i := 0) (oi := ⟨some 43, .fieldAddr 44 (.tmp 4) 1, 0, "ref.go:97", #[], none⟩) rfl ?_; (try simp only [Act.put, List.setIfInBounds_toArray, List.set_cons_succ, List.set_cons_zero])
              refine tk (i := 1) (oi := ⟨some 44, .load 38 (.tmp 43), 38, "ref.go:97", #[⟨0, .data⟩], none⟩) rfl ?_; (try simp only [Act.put, List.setIfInBounds_toArray, List.set_cons_succ, List.set_cons_zero])
              refine tk (i := 2) (oi := ⟨some 45, .move (.tmp 5), 3, "ref.go:97", #[], none⟩) rfl ?_; (try simp only [Act.put, List.setIfInBounds_toArray, List.set_cons_succ, List.set_cons_zero])
              refine tk (i := 3) (oi := ⟨some 46, .indexAddr 38 (.tmp 44) (.tmp 45), 0, "ref.go:97", #[⟨1, .data⟩, ⟨2, .data⟩], none⟩) rfl ?_; (try simp only [Act.put, List.setIfInBounds_toArray, List.set_cons_succ, List.set_cons_zero])
              refine tk (i := 4) (oi := ⟨some 47, .fieldAddr 48 (.tmp 46) 0, 0, "ref.go:97", #[⟨3, .data⟩], none⟩) rfl ?_; (try simp only [Act.put, List.setIfInBounds_toArray, List.set_cons_succ, List.set_cons_zero])
              refine tk (i := 5) (oi := ⟨some 48, .load 3 (.tmp 47), 3, "ref.go:97", #[⟨4, .data⟩], none⟩) rfl ?_; (try simp only [Act.put, List.setIfInBounds_toArray, List.set_cons_succ, List.set_cons_zero])
              refine tk (i := 6) (oi := ⟨some 49, .binOp .lss 3 (.tmp 48) (.const (.int .i64 0)) 3, 4, "ref.go:97", #[⟨5, .data⟩], none⟩) rfl ?_; (try simp only [Act.put, List.setIfInBounds_toArray, List.set_cons_succ, List.set_cons_zero])
              refine tk (i := 7) (oi := ⟨some 50, .move (.tmp 49), 4, "ref.go:97", #[⟨6, .data⟩], none⟩) rfl ?_; (try simp only [Act.put, List.setIfInBounds_toArray, List.set_cons_succ, List.set_cons_zero])
              refine tk (i := 8) (oi := ⟨some 51, .fieldAddr 44 (.tmp 4) 1, 0, "ref.go:97", #[⟨7, .guard⟩], some (7, false)⟩) rfl ?_; (try simp only [Act.put, List.setIfInBounds_toArray, List.set_cons_succ, List.set_cons_zero])
              refine tk (i := 9) (oi := ⟨some 52, .load 38 (.tmp 51), 38, "ref.go:97", #[⟨8, .data⟩, ⟨7, .guard⟩], some (7, false)⟩) rfl ?_; (try simp only [Act.put, List.setIfInBounds_toArray, List.set_cons_succ, List.set_cons_zero])
              refine tk (i := 10) (oi := ⟨some 53, .move (.tmp 5), 3, "ref.go:97", #[⟨7, .guard⟩], some (7, false)⟩) rfl ?_; (try simp only [Act.put, List.setIfInBounds_toArray, List.set_cons_succ, List.set_cons_zero])
              refine tk (i := 11) (oi := ⟨some 54, .indexAddr 38 (.tmp 52) (.tmp 53), 0, "ref.go:97", #[⟨9, .data⟩, ⟨10, .data⟩, ⟨7, .guard⟩], some (7, false)⟩) rfl ?_; (try simp only [Act.put, List.setIfInBounds_toArray, List.set_cons_succ, List.set_cons_zero])
              refine tk (i := 12) (oi := ⟨some 55, .fieldAddr 48 (.tmp 54) 0, 0, "ref.go:97", #[⟨11, .data⟩, ⟨7, .guard⟩], some (7, false)⟩) rfl ?_; (try simp only [Act.put, List.setIfInBounds_toArray, List.set_cons_succ, List.set_cons_zero])
              refine tk (i := 13) (oi := ⟨some 56, .load 3 (.tmp 55), 3, "ref.go:97", #[⟨12, .data⟩, ⟨7, .guard⟩], some (7, false)⟩) rfl ?_; (try simp only [Act.put, List.setIfInBounds_toArray, List.set_cons_succ, List.set_cons_zero])
              refine wpAnyH_ready (rs := [14]) (by kernel_rfl) (by simp) ?_
              refine AllReadyH.cons (o := { dst := some 57, op := Go.Op.call { callee := Go.Callee.value (Go.Operand.func 42), args := #[], argTypes := #[] }, type := 54, pos := "ref.go:97", after := #[{ on := 7, ground := Go.Ground.chain }, { on := 7, ground := Go.Ground.guard }], guard := some (7, false) }) rfl (fun K hK => ?_) AllReadyH.nil
              go_simp
              (refine (rkinds_any _).mono ?_; rintro e w5 ⟨⟨A, rfl, -⟩, hb5⟩; have S5 := keep3 S0' hb5; have U5 := Lib.hid ((below_drewN wr 1).trans (hb5.mono (Nat.le_refl _))))
              (try dsimp only)
              refine hK.out _ _ ?_ (fun hHeld1 => ?_)
              · first | trivial | ((try dsimp only); first | assumption | trivial | go_keep)
              clear hK K hHeld0
              (try simp only [Act.put, List.setIfInBounds_toArray, List.set_cons_succ, List.set_cons_zero])
              refine tk (i := 15) (oi := ⟨some 58, .call { callee := .builtin .len, args := #[.tmp 57], argTypes := #[54] }, 3, "ref.go:97", #[⟨14, .data⟩, ⟨7, .guard⟩], some (7, false)⟩) rfl ?_; (try simp only [Act.put, List.setIfInBounds_toArray, List.set_cons_succ, List.set_cons_zero])
              refine tk (i := 16) (oi := ⟨some 59, .binOp .geq 3 (.tmp 56) (.tmp 58) 3, 4, "ref.go:97", #[⟨13, .data⟩, ⟨15, .data⟩, ⟨7, .guard⟩], some (7, false)⟩) rfl ?_; (try simp only [Act.put, List.setIfInBounds_toArray, List.set_cons_succ, List.set_cons_zero])
              refine tk (i := 17) (oi := ⟨some 60, .pick (.tmp 50) (.const (.bool true)) (.tmp 59), 4, "ref.go:97", #[⟨7, .data⟩, ⟨16, .data⟩], none⟩) rfl ?_; (try simp only [Act.put, List.setIfInBounds_toArray, List.set_cons_succ, List.set_cons_zero])
              refine tk (i := 18) (oi := ⟨some 61, .move (.tmp 60), 4, "ref.go:97", #[⟨17, .data⟩, ⟨14, .chain⟩], none⟩) rfl ?_; (try simp only [Act.put, List.setIfInBounds_toArray, List.set_cons_succ, List.set_cons_zero])
              refine tk (i := 19) (oi := ⟨some 62, .fieldAddr 44 (.tmp 4) 1, 0, "ref.go:97", #[⟨18, .guard⟩], some (18, false)⟩) rfl ?_; (try simp only [Act.put, List.setIfInBounds_toArray, List.set_cons_succ, List.set_cons_zero])
              refine tk (i := 20) (oi := ⟨some 63, .load 38 (.tmp 62), 38, "ref.go:97", #[⟨19, .data⟩, ⟨18, .guard⟩], some (18, false)⟩) rfl ?_; (try simp only [Act.put, List.setIfInBounds_toArray, List.set_cons_succ, List.set_cons_zero])
              refine tk (i := 21) (oi := ⟨some 64, .move (.tmp 5), 3, "ref.go:97", #[⟨18, .guard⟩], some (18, false)⟩) rfl ?_; (try simp only [Act.put, List.setIfInBounds_toArray, List.set_cons_succ, List.set_cons_zero])
              refine tk (i := 22) (oi := ⟨some 65, .indexAddr 38 (.tmp 63) (.tmp 64), 0, "ref.go:97", #[⟨20, .data⟩, ⟨21, .data⟩, ⟨18, .guard⟩], some (18, false)⟩) rfl ?_; (try simp only [Act.put, List.setIfInBounds_toArray, List.set_cons_succ, List.set_cons_zero])
              refine tk (i := 23) (oi := ⟨some 66, .fieldAddr 48 (.tmp 65) 1, 0, "ref.go:97", #[⟨22, .data⟩, ⟨18, .guard⟩], some (18, false)⟩) rfl ?_; (try simp only [Act.put, List.setIfInBounds_toArray, List.set_cons_succ, List.set_cons_zero])
              refine tk (i := 24) (oi := ⟨some 67, .load 45 (.tmp 66), 45, "ref.go:97", #[⟨23, .data⟩, ⟨18, .guard⟩], some (18, false)⟩) rfl ?_; (try simp only [Act.put, List.setIfInBounds_toArray, List.set_cons_succ, List.set_cons_zero])
              refine wpAnyH_ready (rs := [25]) (by kernel_rfl) (by simp) ?_
              refine AllReadyH.cons (o := { dst := some 68, op := Go.Op.call { callee := Go.Callee.value (Go.Operand.func 43), args := #[Go.Operand.tmp 67], argTypes := #[45] }, type := 4, pos := "ref.go:97", after := #[{ on := 24, ground := Go.Ground.data }, { on := 18, ground := Go.Ground.chain }, { on := 18, ground := Go.Ground.guard }], guard := some (18, false) }) rfl (fun K hK => ?_) AllReadyH.nil
              go_simp
              (refine (HKN.out _).mono ?_; rintro e w6 ⟨rfl, hb6⟩; have S6 := keep3 S5 hb6; have U6 := Lib.hid (U5.out.trans (hb6.mono U5.out.size)))
              (try dsimp only)
              refine hK.out _ _ ?_ (fun hHeld2 => ?_)
              · first | trivial | ((try dsimp only); first | assumption | trivial | go_keep)
              clear hK K hHeld1
              (try simp only [Act.put, List.setIfInBounds_toArray, List.set_cons_succ, List.set_cons_zero])
              refine tk (i := 26) (oi := ⟨some 69, .unOp .not 4 (.tmp 68), 4, "ref.go:97", #[⟨25, .data⟩, ⟨18, .guard⟩], some (18, false)⟩) rfl ?_; (try simp only [Act.put, List.setIfInBounds_toArray, List.set_cons_succ, List.set_cons_zero])
              refine tk (i := 27) (oi := ⟨some 70, .pick (.tmp 61) (.const (.bool true)) (.tmp 69), 4, "ref.go:97", #[⟨18, .data⟩, ⟨26, .data⟩], none⟩) rfl ?_; (try simp only [Act.put, List.setIfInBounds_toArray, List.set_cons_succ, List.set_cons_zero])
              refine tk (i := 28) (oi := ⟨some 71, .move (.tmp 70), 4, "ref.go:97", #[⟨27, .data⟩, ⟨25, .chain⟩], none⟩) rfl ?_; (try simp only [Act.put, List.setIfInBounds_toArray, List.set_cons_succ, List.set_cons_zero])
              refine tkN (i := 29) (oi := ⟨some 72, .fieldAddr 44 (.tmp 4) 1, 0, "ref.go:97", #[⟨28, .guard⟩], some (28, false)⟩) rfl ?_; (try simp only [Act.put, List.setIfInBounds_toArray, List.set_cons_succ, List.set_cons_zero])
              refine tkN (i := 30) (oi := ⟨some 73, .load 38 (.tmp 72), 38, "ref.go:97", #[⟨29, .data⟩, ⟨28, .guard⟩], some (28, false)⟩) rfl ?_; (try simp only [Act.put, List.setIfInBounds_toArray, List.set_cons_succ, List.set_cons_zero])
              refine tkN (i := 31) (oi := ⟨some 74, .move (.tmp 5), 3, "ref.go:97", #[⟨28, .guard⟩], some (28, false)⟩) rfl ?_; (try simp only [Act.put, List.setIfInBounds_toArray, List.set_cons_succ, List.set_cons_zero])
              refine tkN (i := 32) (oi := ⟨some 75, .indexAddr 38 (.tmp 73) (.tmp 74), 0, "ref.go:97", #[⟨30, .data⟩, ⟨31, .data⟩, ⟨28, .guard⟩], some (28, false)⟩) rfl ?_; (try simp only [Act.put, List.setIfInBounds_toArray, List.set_cons_succ, List.set_cons_zero])
              refine tkN (i := 33) (oi := ⟨some 76, .fieldAddr 48 (.tmp 75) 1, 0, "ref.go:97", #[⟨32, .data⟩, ⟨28, .guard⟩], some (28, false)⟩) rfl ?_; (try simp only [Act.put, List.setIfInBounds_toArray, List.set_cons_succ, List.set_cons_zero])
              refine tkN (i := 34) (oi := ⟨some 77, .load 45 (.tmp 76), 45, "ref.go:97", #[⟨33, .data⟩, ⟨28, .guard⟩], some (28, false)⟩) rfl ?_; (try simp only [Act.put, List.setIfInBounds_toArray, List.set_cons_succ, List.set_cons_zero])
              refine tkN (i := 35) (oi := ⟨some 78, .binOp .eql 45 (.tmp 77) (.const (.int .i64 28)) 45, 4, "ref.go:97", #[⟨34, .data⟩, ⟨28, .guard⟩], some (28, false)⟩) rfl ?_; (try simp only [Act.put, List.setIfInBounds_toArray, List.set_cons_succ, List.set_cons_zero])
              refine tk (i := 36) (oi := ⟨some 79, .pick (.tmp 71) (.const (.bool true)) (.tmp 78), 4, "ref.go:97", #[⟨28, .data⟩, ⟨35, .data⟩], none⟩) rfl ?_; (try simp only [Act.put, List.setIfInBounds_toArray, List.set_cons_succ, List.set_cons_zero])
              refine wpAnyH_done (by kernel_rfl) ?_ _
              go_wp2
              go_ret
              exact ⟨by rw [HM.out, HF.out]; rfl, B0.out.trans (U6.out.mono B0.out.size)⟩
            rcases hq : (iop == 28) with _ | _
            · have k1 : decide (ik < 0) = false := by simpa using k0
              have k2 : decide ((20 : Int) ≤ ik) = false := by simpa using k9
              have HF : Hid (M = ((ins.drop (j + 1)).all St.insMay && ((St.word St.endW fk).2 && (blocks.drop (i + 1)).all St.blkMay))) := Lib.hid (by rw [HH.out, show decide (0 ≤ ik) = true from by simpa using k0, show decide (ik < ((20 : Nat) : Int)) = true from by simpa using k9, hq]; rfl)
              clear k0 k9
              have S0 := S00.out
              have S0' : (fun W => W.cell? ⟨K, 1, none⟩ = some (.slice (some ⟨gi, oi, none⟩) ins.length ci) ∧ W.cell? ⟨gi, oi + j * 7, none⟩ = some (.int .i64 ik) ∧ W.cell? ⟨gi, oi + j * 7 + 1, none⟩ = some (.int .i64 iop)) (World.drew wr) := S0
              dsimp only at S0'
              refine wp_region_held_drew (S := (fun W => W.cell? ⟨K, 1, none⟩ = some (.slice (some ⟨gi, oi, none⟩) ins.length ci) ∧ W.cell? ⟨gi, oi + j * 7, none⟩ = some (.int .i64 ik) ∧ W.cell? ⟨gi, oi + j * 7 + 1, none⟩ = some (.int .i64 iop))) (by kernel_rfl) ?_ (fun hHeld0 => ?_)
              · first | assumption | go_keep
              refine tk (i := 0) (oi := ⟨some 43, .fieldAddr 44 (.tmp 4) 1, 0, "ref.go:97", #[], none⟩) rfl ?_; (try simp only [Act.put, List.setIfInBounds_toArray, List.set_cons_succ, List.set_cons_zero])
              refine tk (i := 1) (oi := ⟨some 44, .load 38 (.tmp 43), 38, "ref.go:97", #[⟨0, .data⟩], none⟩) rfl ?_; (try simp only [Act.put, List.setIfInBounds_toArray, List.set_cons_succ, List.set_cons_zero])
              refine tk (i := 2) (oi := ⟨some 45, .move (.tmp 5), 3, "ref.go:97", #[], none⟩) rfl ?_; (try simp only [Act.put, List.setIfInBounds_toArray, List.set_cons_succ, List.set_cons_zero])
              refine tk (i := 3) (oi := ⟨some 46, .indexAddr 38 (.tmp 44) (.tmp 45), 0, "ref.go:97", #[⟨1, .data⟩, ⟨2, .data⟩], none⟩) rfl ?_; (try simp only [Act.put, List.setIfInBounds_toArray, List.set_cons_succ, List.set_cons_zero])
              refine tk (i := 4) (oi := ⟨some 47, .fieldAddr 48 (.tmp 46) 0, 0, "ref.go:97", #[⟨3, .data⟩], none⟩) rfl ?_; (try simp only [Act.put, List.setIfInBounds_toArray, List.set_cons_succ, List.set_cons_zero])
              refine tk (i := 5) (oi := ⟨some 48, .load 3 (.tmp 47), 3, "ref.go:97", #[⟨4, .data⟩], none⟩) rfl ?_; (try simp only [Act.put, List.setIfInBounds_toArray, List.set_cons_succ, List.set_cons_zero])
              refine tk (i := 6) (oi := ⟨some 49, .binOp .lss 3 (.tmp 48) (.const (.int .i64 0)) 3, 4, "ref.go:97", #[⟨5, .data⟩], none⟩) rfl ?_; (try simp only [Act.put, List.setIfInBounds_toArray, List.set_cons_succ, List.set_cons_zero])
              refine tk (i := 7) (oi := ⟨some 50, .move (.tmp 49), 4, "ref.go:97", #[⟨6, .data⟩], none⟩) rfl ?_; (try simp only [Act.put, List.setIfInBounds_toArray, List.set_cons_succ, List.set_cons_zero])
              refine tk (i := 8) (oi := ⟨some 51, .fieldAddr 44 (.tmp 4) 1, 0, "ref.go:97", #[⟨7, .guard⟩], some (7, false)⟩) rfl ?_; (try simp only [Act.put, List.setIfInBounds_toArray, List.set_cons_succ, List.set_cons_zero])
              refine tk (i := 9) (oi := ⟨some 52, .load 38 (.tmp 51), 38, "ref.go:97", #[⟨8, .data⟩, ⟨7, .guard⟩], some (7, false)⟩) rfl ?_; (try simp only [Act.put, List.setIfInBounds_toArray, List.set_cons_succ, List.set_cons_zero])
              refine tk (i := 10) (oi := ⟨some 53, .move (.tmp 5), 3, "ref.go:97", #[⟨7, .guard⟩], some (7, false)⟩) rfl ?_; (try simp only [Act.put, List.setIfInBounds_toArray, List.set_cons_succ, List.set_cons_zero])
              refine tk (i := 11) (oi := ⟨some 54, .indexAddr 38 (.tmp 52) (.tmp 53), 0, "ref.go:97", #[⟨9, .data⟩, ⟨10, .data⟩, ⟨7, .guard⟩], some (7, false)⟩) rfl ?_; (try simp only [Act.put, List.setIfInBounds_toArray, List.set_cons_succ, List.set_cons_zero])
              refine tk (i := 12) (oi := ⟨some 55, .fieldAddr 48 (.tmp 54) 0, 0, "ref.go:97", #[⟨11, .data⟩, ⟨7, .guard⟩], some (7, false)⟩) rfl ?_; (try simp only [Act.put, List.setIfInBounds_toArray, List.set_cons_succ, List.set_cons_zero])
              refine tk (i := 13) (oi := ⟨some 56, .load 3 (.tmp 55), 3, "ref.go:97", #[⟨12, .data⟩, ⟨7, .guard⟩], some (7, false)⟩) rfl ?_; (try simp only [Act.put, List.setIfInBounds_toArray, List.set_cons_succ, List.set_cons_zero])
              refine wpAnyH_ready (rs := [14]) (by kernel_rfl) (by simp) ?_
              refine AllReadyH.cons (o := { dst := some 57, op := Go.Op.call { callee := Go.Callee.value (Go.Operand.func 42), args := #[], argTypes := #[] }, type := 54, pos := "ref.go:97", after := #[{ on := 7, ground := Go.Ground.chain }, { on := 7, ground := Go.Ground.guard }], guard := some (7, false) }) rfl (fun K hK => ?_) AllReadyH.nil
              go_simp
              (refine (rkinds_any _).mono ?_; rintro e w5 ⟨⟨A, rfl, -⟩, hb5⟩; have S5 := keep3 S0' hb5; have U5 := Lib.hid ((below_drewN wr 1).trans (hb5.mono (Nat.le_refl _))))
              (try dsimp only)
              refine hK.out _ _ ?_ (fun hHeld1 => ?_)
              · first | trivial | ((try dsimp only); first | assumption | trivial | go_keep)
              clear hK K hHeld0
              (try simp only [Act.put, List.setIfInBounds_toArray, List.set_cons_succ, List.set_cons_zero])
              refine tk (i := 15) (oi := ⟨some 58, .call { callee := .builtin .len, args := #[.tmp 57], argTypes := #[54] }, 3, "ref.go:97", #[⟨14, .data⟩, ⟨7, .guard⟩], some (7, false)⟩) rfl ?_; (try simp only [Act.put, List.setIfInBounds_toArray, List.set_cons_succ, List.set_cons_zero])
              refine tk (i := 16) (oi := ⟨some 59, .binOp .geq 3 (.tmp 56) (.tmp 58) 3, 4, "ref.go:97", #[⟨13, .data⟩, ⟨15, .data⟩, ⟨7, .guard⟩], some (7, false)⟩) rfl ?_; (try simp only [Act.put, List.setIfInBounds_toArray, List.set_cons_succ, List.set_cons_zero])
              refine tk (i := 17) (oi := ⟨some 60, .pick (.tmp 50) (.const (.bool true)) (.tmp 59), 4, "ref.go:97", #[⟨7, .data⟩, ⟨16, .data⟩], none⟩) rfl ?_; (try simp only [Act.put, List.setIfInBounds_toArray, List.set_cons_succ, List.set_cons_zero])
              refine tk (i := 18) (oi := ⟨some 61, .move (.tmp 60), 4, "ref.go:97", #[⟨17, .data⟩, ⟨14, .chain⟩], none⟩) rfl ?_; (try simp only [Act.put, List.setIfInBounds_toArray, List.set_cons_succ, List.set_cons_zero])
              refine tk (i := 19) (oi := ⟨some 62, .fieldAddr 44 (.tmp 4) 1, 0, "ref.go:97", #[⟨18, .guard⟩], some (18, false)⟩) rfl ?_; (try simp only [Act.put, List.setIfInBounds_toArray, List.set_cons_succ, List.set_cons_zero])
              refine tk (i := 20) (oi := ⟨some 63, .load 38 (.tmp 62), 38, "ref.go:97", #[⟨19, .data⟩, ⟨18, .guard⟩], some (18, false)⟩) rfl ?_; (try simp only [Act.put, List.setIfInBounds_toArray, List.set_cons_succ, List.set_cons_zero])
              refine tk (i := 21) (oi := ⟨some 64, .move (.tmp 5), 3, "ref.go:97", #[⟨18, .guard⟩], some (18, false)⟩) rfl ?_; (try simp only [Act.put, List.setIfInBounds_toArray, List.set_cons_succ, List.set_cons_zero])
              refine tk (i := 22) (oi := ⟨some 65, .indexAddr 38 (.tmp 63) (.tmp 64), 0, "ref.go:97", #[⟨20, .data⟩, ⟨21, .data⟩, ⟨18, .guard⟩], some (18, false)⟩) rfl ?_; (try simp only [Act.put, List.setIfInBounds_toArray, List.set_cons_succ, List.set_cons_zero])
              refine tk (i := 23) (oi := ⟨some 66, .fieldAddr 48 (.tmp 65) 1, 0, "ref.go:97", #[⟨22, .data⟩, ⟨18, .guard⟩], some (18, false)⟩) rfl ?_; (try simp only [Act.put, List.setIfInBounds_toArray, List.set_cons_succ, List.set_cons_zero])
              refine tk (i := 24) (oi := ⟨some 67, .load 45 (.tmp 66), 45, "ref.go:97", #[⟨23, .data⟩, ⟨18, .guard⟩], some (18, false)⟩) rfl ?_; (try simp only [Act.put, List.setIfInBounds_toArray, List.set_cons_succ, List.set_cons_zero])
              refine wpAnyH_ready (rs := [25]) (by kernel_rfl) (by simp) ?_
              refine AllReadyH.cons (o := { dst := some 68, op := Go.Op.call { callee := Go.Callee.value (Go.Operand.func 43), args := #[Go.Operand.tmp 67], argTypes := #[45] }, type := 4, pos := "ref.go:97", after := #[{ on := 24, ground := Go.Ground.data }, { on := 18, ground := Go.Ground.chain }, { on := 18, ground := Go.Ground.guard }], guard := some (18, false) }) rfl (fun K hK => ?_) AllReadyH.nil
              go_simp
              (refine (HKN.out _).mono ?_; rintro e w6 ⟨rfl, hb6⟩; have S6 := keep3 S5 hb6; have U6 := Lib.hid (U5.out.trans (hb6.mono U5.out.size)))
              (try dsimp only)
              refine hK.out _ _ ?_ (fun hHeld2 => ?_)
              · first | trivial | ((try dsimp only); first | assumption | trivial | go_keep)
              clear hK K hHeld1
              (try simp only [Act.put, List.setIfInBounds_toArray, List.set_cons_succ, List.set_cons_zero])
              refine tk (i := 26) (oi := ⟨some 69, .unOp .not 4 (.tmp 68), 4, "ref.go:97", #[⟨25, .data⟩, ⟨18, .guard⟩], some (18, false)⟩) rfl ?_; (try simp only [Act.put, List.setIfInBounds_toArray, List.set_cons_succ, List.set_cons_zero])
              refine tk (i := 27) (oi := ⟨some 70, .pick (.tmp 61) (.const (.bool true)) (.tmp 69), 4, "ref.go:97", #[⟨18, .data⟩, ⟨26, .data⟩], none⟩) rfl ?_; (try simp only [Act.put, List.setIfInBounds_toArray, List.set_cons_succ, List.set_cons_zero])
              refine tk (i := 28) (oi := ⟨some 71, .move (.tmp 70), 4, "ref.go:97", #[⟨27, .data⟩, ⟨25, .chain⟩], none⟩) rfl ?_; (try simp only [Act.put, List.setIfInBounds_toArray, List.set_cons_succ, List.set_cons_zero])
              refine tk (i := 29) (oi := ⟨some 72, .fieldAddr 44 (.tmp 4) 1, 0, "ref.go:97", #[⟨28, .guard⟩], some (28, false)⟩) rfl ?_; (try simp only [Act.put, List.setIfInBounds_toArray, List.set_cons_succ, List.set_cons_zero])
              refine tk (i := 30) (oi := ⟨some 73, .load 38 (.tmp 72), 38, "ref.go:97", #[⟨29, .data⟩, ⟨28, .guard⟩], some (28, false)⟩) rfl ?_; (try simp only [Act.put, List.setIfInBounds_toArray, List.set_cons_succ, List.set_cons_zero])
              refine tk (i := 31) (oi := ⟨some 74, .move (.tmp 5), 3, "ref.go:97", #[⟨28, .guard⟩], some (28, false)⟩) rfl ?_; (try simp only [Act.put, List.setIfInBounds_toArray, List.set_cons_succ, List.set_cons_zero])
              refine tk (i := 32) (oi := ⟨some 75, .indexAddr 38 (.tmp 73) (.tmp 74), 0, "ref.go:97", #[⟨30, .data⟩, ⟨31, .data⟩, ⟨28, .guard⟩], some (28, false)⟩) rfl ?_; (try simp only [Act.put, List.setIfInBounds_toArray, List.set_cons_succ, List.set_cons_zero])
              refine tk (i := 33) (oi := ⟨some 76, .fieldAddr 48 (.tmp 75) 1, 0, "ref.go:97", #[⟨32, .data⟩, ⟨28, .guard⟩], some (28, false)⟩) rfl ?_; (try simp only [Act.put, List.setIfInBounds_toArray, List.set_cons_succ, List.set_cons_zero])
              refine tk (i := 34) (oi := ⟨some 77, .load 45 (.tmp 76), 45, "ref.go:97", #[⟨33, .data⟩, ⟨28, .guard⟩], some (28, false)⟩) rfl ?_; (try simp only [Act.put, List.setIfInBounds_toArray, List.set_cons_succ, List.set_cons_zero])
              refine tk (i := 35) (oi := ⟨some 78, .binOp .eql 45 (.tmp 77) (.const (.int .i64 28)) 45, 4, "ref.go:97", #[⟨34, .data⟩, ⟨28, .guard⟩], some (28, false)⟩) rfl ?_; (try simp only [Act.put, List.setIfInBounds_toArray, List.set_cons_succ, List.set_cons_zero])
              refine tk (i := 36) (oi := ⟨some 79, .pick (.tmp 71) (.const (.bool true)) (.tmp 78), 4, "ref.go:97", #[⟨28, .data⟩, ⟨35, .data⟩], none⟩) rfl ?_; (try simp only [Act.put, List.setIfInBounds_toArray, List.set_cons_succ, List.set_cons_zero])
              refine wpAnyH_done (by kernel_rfl) ?_ _
              have UU := Lib.hid (U6.out.mono (Nat.le_refl wr.heap.size))
              clear S0 S0' S5 S6 hb5 hb6
              go_wp2
              go_roundw
              case rel => exact ⟨j + 1, by go_num, by omega, Lib.hid (VK.out.below U6.out VK.out.lt), Lib.hid (V0.out.below U6.out V0.out.lt), Lib.hid (hin.out.insOn U6.out), Lib.hid (B0.out.trans (U6.out.mono B0.out.size)), HF⟩
              case measure => simp [intOf]; omega
            · have k1 : decide (ik < 0) = false := by simpa using k0
              have k2 : decide ((20 : Int) ≤ ik) = false := by simpa using k9
              have HF : Hid (M = false) := Lib.hid (by rw [HH.out, show decide (0 ≤ ik) = true from by simpa using k0, show decide (ik < ((20 : Nat) : Int)) = true from by simpa using k9, hq]; rfl)
              clear k0 k9
              have S0 := S00.out
              have S0' : (fun W => W.cell? ⟨K, 1, none⟩ = some (.slice (some ⟨gi, oi, none⟩) ins.length ci) ∧ W.cell? ⟨gi, oi + j * 7, none⟩ = some (.int .i64 ik) ∧ W.cell? ⟨gi, oi + j * 7 + 1, none⟩ = some (.int .i64 iop)) (World.drew wr) := S0
              dsimp only at S0'
              refine wp_region_held_drew (S := (fun W => W.cell? ⟨K, 1, none⟩ = some (.slice (some ⟨gi, oi, none⟩) ins.length ci) ∧ W.cell? ⟨gi, oi + j * 7, none⟩ = some (.int .i64 ik) ∧ W.cell? ⟨gi, oi + j * 7 + 1, none⟩ = some (.int .i64 iop))) (by kernel_rfl) ?_ (fun hHeld0 => ?_)
              · first | assumption | go_keep
              refine tk (i := 0) (oi := ⟨some 43, .fieldAddr 44 (.tmp 4) 1, 0, "ref.go:97", #[], none⟩) rfl ?_; (try simp only [Act.put, List.setIfInBounds_toArray, List.set_cons_succ, List.set_cons_zero])
              refine tk (i := 1) (oi := ⟨some 44, .load 38 (.tmp 43), 38, "ref.go:97", #[⟨0, .data⟩], none⟩) rfl ?_; (try simp only [Act.put, List.setIfInBounds_toArray, List.set_cons_succ, List.set_cons_zero])
              refine tk (i := 2) (oi := ⟨some 45, .move (.tmp 5), 3, "ref.go:97", #[], none⟩) rfl ?_; (try simp only [Act.put, List.setIfInBounds_toArray, List.set_cons_succ, List.set_cons_zero])
              refine tk (i := 3) (oi := ⟨some 46, .indexAddr 38 (.tmp 44) (.tmp 45), 0, "ref.go:97", #[⟨1, .data⟩, ⟨2, .data⟩], none⟩) rfl ?_; (try simp only [Act.put, List.setIfInBounds_toArray, List.set_cons_succ, List.set_cons_zero])
              refine tk (i := 4) (oi := ⟨some 47, .fieldAddr 48 (.tmp 46) 0, 0, "ref.go:97", #[⟨3, .data⟩], none⟩) rfl ?_; (try simp only [Act.put, List.setIfInBounds_toArray, List.set_cons_succ, List.set_cons_zero])
              refine tk (i := 5) (oi := ⟨some 48, .load 3 (.tmp 47), 3, "ref.go:97", #[⟨4, .data⟩], none⟩) rfl ?_; (try simp only [Act.put, List.setIfInBounds_toArray, List.set_cons_succ, List.set_cons_zero])
              refine tk (i := 6) (oi := ⟨some 49, .binOp .lss 3 (.tmp 48) (.const (.int .i64 0)) 3, 4, "ref.go:97", #[⟨5, .data⟩], none⟩) rfl ?_; (try simp only [Act.put, List.setIfInBounds_toArray, List.set_cons_succ, List.set_cons_zero])
              refine tk (i := 7) (oi := ⟨some 50, .move (.tmp 49), 4, "ref.go:97", #[⟨6, .data⟩], none⟩) rfl ?_; (try simp only [Act.put, List.setIfInBounds_toArray, List.set_cons_succ, List.set_cons_zero])
              refine tk (i := 8) (oi := ⟨some 51, .fieldAddr 44 (.tmp 4) 1, 0, "ref.go:97", #[⟨7, .guard⟩], some (7, false)⟩) rfl ?_; (try simp only [Act.put, List.setIfInBounds_toArray, List.set_cons_succ, List.set_cons_zero])
              refine tk (i := 9) (oi := ⟨some 52, .load 38 (.tmp 51), 38, "ref.go:97", #[⟨8, .data⟩, ⟨7, .guard⟩], some (7, false)⟩) rfl ?_; (try simp only [Act.put, List.setIfInBounds_toArray, List.set_cons_succ, List.set_cons_zero])
              refine tk (i := 10) (oi := ⟨some 53, .move (.tmp 5), 3, "ref.go:97", #[⟨7, .guard⟩], some (7, false)⟩) rfl ?_; (try simp only [Act.put, List.setIfInBounds_toArray, List.set_cons_succ, List.set_cons_zero])
              refine tk (i := 11) (oi := ⟨some 54, .indexAddr 38 (.tmp 52) (.tmp 53), 0, "ref.go:97", #[⟨9, .data⟩, ⟨10, .data⟩, ⟨7, .guard⟩], some (7, false)⟩) rfl ?_; (try simp only [Act.put, List.setIfInBounds_toArray, List.set_cons_succ, List.set_cons_zero])
              refine tk (i := 12) (oi := ⟨some 55, .fieldAddr 48 (.tmp 54) 0, 0, "ref.go:97", #[⟨11, .data⟩, ⟨7, .guard⟩], some (7, false)⟩) rfl ?_; (try simp only [Act.put, List.setIfInBounds_toArray, List.set_cons_succ, List.set_cons_zero])
              refine tk (i := 13) (oi := ⟨some 56, .load 3 (.tmp 55), 3, "ref.go:97", #[⟨12, .data⟩, ⟨7, .guard⟩], some (7, false)⟩) rfl ?_; (try simp only [Act.put, List.setIfInBounds_toArray, List.set_cons_succ, List.set_cons_zero])
              refine wpAnyH_ready (rs := [14]) (by kernel_rfl) (by simp) ?_
              refine AllReadyH.cons (o := { dst := some 57, op := Go.Op.call { callee := Go.Callee.value (Go.Operand.func 42), args := #[], argTypes := #[] }, type := 54, pos := "ref.go:97", after := #[{ on := 7, ground := Go.Ground.chain }, { on := 7, ground := Go.Ground.guard }], guard := some (7, false) }) rfl (fun K hK => ?_) AllReadyH.nil
              go_simp
              (refine (rkinds_any _).mono ?_; rintro e w5 ⟨⟨A, rfl, -⟩, hb5⟩; have S5 := keep3 S0' hb5; have U5 := Lib.hid ((below_drewN wr 1).trans (hb5.mono (Nat.le_refl _))))
              (try dsimp only)
              refine hK.out _ _ ?_ (fun hHeld1 => ?_)
              · first | trivial | ((try dsimp only); first | assumption | trivial | go_keep)
              clear hK K hHeld0
              (try simp only [Act.put, List.setIfInBounds_toArray, List.set_cons_succ, List.set_cons_zero])
              refine tk (i := 15) (oi := ⟨some 58, .call { callee := .builtin .len, args := #[.tmp 57], argTypes := #[54] }, 3, "ref.go:97", #[⟨14, .data⟩, ⟨7, .guard⟩], some (7, false)⟩) rfl ?_; (try simp only [Act.put, List.setIfInBounds_toArray, List.set_cons_succ, List.set_cons_zero])
              refine tk (i := 16) (oi := ⟨some 59, .binOp .geq 3 (.tmp 56) (.tmp 58) 3, 4, "ref.go:97", #[⟨13, .data⟩, ⟨15, .data⟩, ⟨7, .guard⟩], some (7, false)⟩) rfl ?_; (try simp only [Act.put, List.setIfInBounds_toArray, List.set_cons_succ, List.set_cons_zero])
              refine tk (i := 17) (oi := ⟨some 60, .pick (.tmp 50) (.const (.bool true)) (.tmp 59), 4, "ref.go:97", #[⟨7, .data⟩, ⟨16, .data⟩], none⟩) rfl ?_; (try simp only [Act.put, List.setIfInBounds_toArray, List.set_cons_succ, List.set_cons_zero])
              refine tk (i := 18) (oi := ⟨some 61, .move (.tmp 60), 4, "ref.go:97", #[⟨17, .data⟩, ⟨14, .chain⟩], none⟩) rfl ?_; (try simp only [Act.put, List.setIfInBounds_toArray, List.set_cons_succ, List.set_cons_zero])
              refine tk (i := 19) (oi := ⟨some 62, .fieldAddr 44 (.tmp 4) 1, 0, "ref.go:97", #[⟨18, .guard⟩], some (18, false)⟩) rfl ?_; (try simp only [Act.put, List.setIfInBounds_toArray, List.set_cons_succ, List.set_cons_zero])
              refine tk (i := 20) (oi := ⟨some 63, .load 38 (.tmp 62), 38, "ref.go:97", #[⟨19, .data⟩, ⟨18, .guard⟩], some (18, false)⟩) rfl ?_; (try simp only [Act.put, List.setIfInBounds_toArray, List.set_cons_succ, List.set_cons_zero])
              refine tk (i := 21) (oi := ⟨some 64, .move (.tmp 5), 3, "ref.go:97", #[⟨18, .guard⟩], some (18, false)⟩) rfl ?_; (try simp only [Act.put, List.setIfInBounds_toArray, List.set_cons_succ, List.set_cons_zero])
              refine tk (i := 22) (oi := ⟨some 65, .indexAddr 38 (.tmp 63) (.tmp 64), 0, "ref.go:97", #[⟨20, .data⟩, ⟨21, .data⟩, ⟨18, .guard⟩], some (18, false)⟩) rfl ?_; (try simp only [Act.put, List.setIfInBounds_toArray, List.set_cons_succ, List.set_cons_zero])
              refine tk (i := 23) (oi := ⟨some 66, .fieldAddr 48 (.tmp 65) 1, 0, "ref.go:97", #[⟨22, .data⟩, ⟨18, .guard⟩], some (18, false)⟩) rfl ?_; (try simp only [Act.put, List.setIfInBounds_toArray, List.set_cons_succ, List.set_cons_zero])
              refine tk (i := 24) (oi := ⟨some 67, .load 45 (.tmp 66), 45, "ref.go:97", #[⟨23, .data⟩, ⟨18, .guard⟩], some (18, false)⟩) rfl ?_; (try simp only [Act.put, List.setIfInBounds_toArray, List.set_cons_succ, List.set_cons_zero])
              refine wpAnyH_ready (rs := [25]) (by kernel_rfl) (by simp) ?_
              refine AllReadyH.cons (o := { dst := some 68, op := Go.Op.call { callee := Go.Callee.value (Go.Operand.func 43), args := #[Go.Operand.tmp 67], argTypes := #[45] }, type := 4, pos := "ref.go:97", after := #[{ on := 24, ground := Go.Ground.data }, { on := 18, ground := Go.Ground.chain }, { on := 18, ground := Go.Ground.guard }], guard := some (18, false) }) rfl (fun K hK => ?_) AllReadyH.nil
              go_simp
              (refine (HKN.out _).mono ?_; rintro e w6 ⟨rfl, hb6⟩; have S6 := keep3 S5 hb6; have U6 := Lib.hid (U5.out.trans (hb6.mono U5.out.size)))
              (try dsimp only)
              refine hK.out _ _ ?_ (fun hHeld2 => ?_)
              · first | trivial | ((try dsimp only); first | assumption | trivial | go_keep)
              clear hK K hHeld1
              (try simp only [Act.put, List.setIfInBounds_toArray, List.set_cons_succ, List.set_cons_zero])
              refine tk (i := 26) (oi := ⟨some 69, .unOp .not 4 (.tmp 68), 4, "ref.go:97", #[⟨25, .data⟩, ⟨18, .guard⟩], some (18, false)⟩) rfl ?_; (try simp only [Act.put, List.setIfInBounds_toArray, List.set_cons_succ, List.set_cons_zero])
              refine tk (i := 27) (oi := ⟨some 70, .pick (.tmp 61) (.const (.bool true)) (.tmp 69), 4, "ref.go:97", #[⟨18, .data⟩, ⟨26, .data⟩], none⟩) rfl ?_; (try simp only [Act.put, List.setIfInBounds_toArray, List.set_cons_succ, List.set_cons_zero])
              refine tk (i := 28) (oi := ⟨some 71, .move (.tmp 70), 4, "ref.go:97", #[⟨27, .data⟩, ⟨25, .chain⟩], none⟩) rfl ?_; (try simp only [Act.put, List.setIfInBounds_toArray, List.set_cons_succ, List.set_cons_zero])
              refine tk (i := 29) (oi := ⟨some 72, .fieldAddr 44 (.tmp 4) 1, 0, "ref.go:97", #[⟨28, .guard⟩], some (28, false)⟩) rfl ?_; (try simp only [Act.put, List.setIfInBounds_toArray, List.set_cons_succ, List.set_cons_zero])
              refine tk (i := 30) (oi := ⟨some 73, .load 38 (.tmp 72), 38, "ref.go:97", #[⟨29, .data⟩, ⟨28, .guard⟩], some (28, false)⟩) rfl ?_; (try simp only [Act.put, List.setIfInBounds_toArray, List.set_cons_succ, List.set_cons_zero])
              refine tk (i := 31) (oi := ⟨some 74, .move (.tmp 5), 3, "ref.go:97", #[⟨28, .guard⟩], some (28, false)⟩) rfl ?_; (try simp only [Act.put, List.setIfInBounds_toArray, List.set_cons_succ, List.set_cons_zero])
              refine tk (i := 32) (oi := ⟨some 75, .indexAddr 38 (.tmp 73) (.tmp 74), 0, "ref.go:97", #[⟨30, .data⟩, ⟨31, .data⟩, ⟨28, .guard⟩], some (28, false)⟩) rfl ?_; (try simp only [Act.put, List.setIfInBounds_toArray, List.set_cons_succ, List.set_cons_zero])
              refine tk (i := 33) (oi := ⟨some 76, .fieldAddr 48 (.tmp 75) 1, 0, "ref.go:97", #[⟨32, .data⟩, ⟨28, .guard⟩], some (28, false)⟩) rfl ?_; (try simp only [Act.put, List.setIfInBounds_toArray, List.set_cons_succ, List.set_cons_zero])
              refine tk (i := 34) (oi := ⟨some 77, .load 45 (.tmp 76), 45, "ref.go:97", #[⟨33, .data⟩, ⟨28, .guard⟩], some (28, false)⟩) rfl ?_; (try simp only [Act.put, List.setIfInBounds_toArray, List.set_cons_succ, List.set_cons_zero])
              refine tk (i := 35) (oi := ⟨some 78, .binOp .eql 45 (.tmp 77) (.const (.int .i64 28)) 45, 4, "ref.go:97", #[⟨34, .data⟩, ⟨28, .guard⟩], some (28, false)⟩) rfl ?_; (try simp only [Act.put, List.setIfInBounds_toArray, List.set_cons_succ, List.set_cons_zero])
              refine tk (i := 36) (oi := ⟨some 79, .pick (.tmp 71) (.const (.bool true)) (.tmp 78), 4, "ref.go:97", #[⟨28, .data⟩, ⟨35, .data⟩], none⟩) rfl ?_; (try simp only [Act.put, List.setIfInBounds_toArray, List.set_cons_succ, List.set_cons_zero])
              refine wpAnyH_done (by kernel_rfl) ?_ _
              go_wp2
              go_ret
              exact ⟨by rw [HM.out, HF.out]; rfl, B0.out.trans (U6.out.mono B0.out.size)⟩
          · have k1 : decide (ik < 0) = false := by simpa using k0
            have k2 : decide ((20 : Int) ≤ ik) = true := by simpa using k9
            have HF : Hid (M = false) := Lib.hid (by rw [HH.out, show decide (0 ≤ ik) = true from by simpa using k0, show decide (ik < ((20 : Nat) : Int)) = false from by simpa using k9]; rfl)
            clear k0 k9
            have S0 := S00.out
            have S0' : (fun W => W.cell? ⟨K, 1, none⟩ = some (.slice (some ⟨gi, oi, none⟩) ins.length ci) ∧ W.cell? ⟨gi, oi + j * 7, none⟩ = some (.int .i64 ik) ∧ W.cell? ⟨gi, oi + j * 7 + 1, none⟩ = some (.int .i64 iop)) (World.drew wr) := S0
            dsimp only at S0'
            refine wp_region_held_drew (S := (fun W => W.cell? ⟨K, 1, none⟩ = some (.slice (some ⟨gi, oi, none⟩) ins.length ci) ∧ W.cell? ⟨gi, oi + j * 7, none⟩ = some (.int .i64 ik) ∧ W.cell? ⟨gi, oi + j * 7 + 1, none⟩ = some (.int .i64 iop))) (by kernel_rfl) ?_ (fun hHeld0 => ?_)
            · first | assumption | go_keep
            refine tk (i := 0) (oi := ⟨some 43, .fieldAddr 44 (.tmp 4) 1, 0, "ref.go:97", #[], none⟩) rfl ?_; (try simp only [Act.put, List.setIfInBounds_toArray, List.set_cons_succ, List.set_cons_zero])
            refine tk (i := 1) (oi := ⟨some 44, .load 38 (.tmp 43), 38, "ref.go:97", #[⟨0, .data⟩], none⟩) rfl ?_; (try simp only [Act.put, List.setIfInBounds_toArray, List.set_cons_succ, List.set_cons_zero])
            refine tk (i := 2) (oi := ⟨some 45, .move (.tmp 5), 3, "ref.go:97", #[], none⟩) rfl ?_; (try simp only [Act.put, List.setIfInBounds_toArray, List.set_cons_succ, List.set_cons_zero])
            refine tk (i := 3) (oi := ⟨some 46, .indexAddr 38 (.tmp 44) (.tmp 45), 0, "ref.go:97", #[⟨1, .data⟩, ⟨2, .data⟩], none⟩) rfl ?_; (try simp only [Act.put, List.setIfInBounds_toArray, List.set_cons_succ, List.set_cons_zero])
            refine tk (i := 4) (oi := ⟨some 47, .fieldAddr 48 (.tmp 46) 0, 0, "ref.go:97", #[⟨3, .data⟩], none⟩) rfl ?_; (try simp only [Act.put, List.setIfInBounds_toArray, List.set_cons_succ, List.set_cons_zero])
            refine tk (i := 5) (oi := ⟨some 48, .load 3 (.tmp 47), 3, "ref.go:97", #[⟨4, .data⟩], none⟩) rfl ?_; (try simp only [Act.put, List.setIfInBounds_toArray, List.set_cons_succ, List.set_cons_zero])
            refine tk (i := 6) (oi := ⟨some 49, .binOp .lss 3 (.tmp 48) (.const (.int .i64 0)) 3, 4, "ref.go:97", #[⟨5, .data⟩], none⟩) rfl ?_; (try simp only [Act.put, List.setIfInBounds_toArray, List.set_cons_succ, List.set_cons_zero])
            refine tk (i := 7) (oi := ⟨some 50, .move (.tmp 49), 4, "ref.go:97", #[⟨6, .data⟩], none⟩) rfl ?_; (try simp only [Act.put, List.setIfInBounds_toArray, List.set_cons_succ, List.set_cons_zero])
            refine tk (i := 8) (oi := ⟨some 51, .fieldAddr 44 (.tmp 4) 1, 0, "ref.go:97", #[⟨7, .guard⟩], some (7, false)⟩) rfl ?_; (try simp only [Act.put, List.setIfInBounds_toArray, List.set_cons_succ, List.set_cons_zero])
            refine tk (i := 9) (oi := ⟨some 52, .load 38 (.tmp 51), 38, "ref.go:97", #[⟨8, .data⟩, ⟨7, .guard⟩], some (7, false)⟩) rfl ?_; (try simp only [Act.put, List.setIfInBounds_toArray, List.set_cons_succ, List.set_cons_zero])
            refine tk (i := 10) (oi := ⟨some 53, .move (.tmp 5), 3, "ref.go:97", #[⟨7, .guard⟩], some (7, false)⟩) rfl ?_; (try simp only [Act.put, List.setIfInBounds_toArray, List.set_cons_succ, List.set_cons_zero])
            refine tk (i := 11) (oi := ⟨some 54, .indexAddr 38 (.tmp 52) (.tmp 53), 0, "ref.go:97", #[⟨9, .data⟩, ⟨10, .data⟩, ⟨7, .guard⟩], some (7, false)⟩) rfl ?_; (try simp only [Act.put, List.setIfInBounds_toArray, List.set_cons_succ, List.set_cons_zero])
            refine tk (i := 12) (oi := ⟨some 55, .fieldAddr 48 (.tmp 54) 0, 0, "ref.go:97", #[⟨11, .data⟩, ⟨7, .guard⟩], some (7, false)⟩) rfl ?_; (try simp only [Act.put, List.setIfInBounds_toArray, List.set_cons_succ, List.set_cons_zero])
            refine tk (i := 13) (oi := ⟨some 56, .load 3 (.tmp 55), 3, "ref.go:97", #[⟨12, .data⟩, ⟨7, .guard⟩], some (7, false)⟩) rfl ?_; (try simp only [Act.put, List.setIfInBounds_toArray, List.set_cons_succ, List.set_cons_zero])
            refine wpAnyH_ready (rs := [14]) (by kernel_rfl) (by simp) ?_
            refine AllReadyH.cons (o := { dst := some 57, op := Go.Op.call { callee := Go.Callee.value (Go.Operand.func 42), args := #[], argTypes := #[] }, type := 54, pos := "ref.go:97", after := #[{ on := 7, ground := Go.Ground.chain }, { on := 7, ground := Go.Ground.guard }], guard := some (7, false) }) rfl (fun K hK => ?_) AllReadyH.nil
            go_simp
            (refine (rkinds_any _).mono ?_; rintro e w5 ⟨⟨A, rfl, -⟩, hb5⟩; have S5 := keep3 S0' hb5; have U5 := Lib.hid ((below_drewN wr 1).trans (hb5.mono (Nat.le_refl _))))
            (try dsimp only)
            refine hK.out _ _ ?_ (fun hHeld1 => ?_)
            · first | trivial | ((try dsimp only); first | assumption | trivial | go_keep)
            clear hK K hHeld0
            (try simp only [Act.put, List.setIfInBounds_toArray, List.set_cons_succ, List.set_cons_zero])
            refine tk (i := 15) (oi := ⟨some 58, .call { callee := .builtin .len, args := #[.tmp 57], argTypes := #[54] }, 3, "ref.go:97", #[⟨14, .data⟩, ⟨7, .guard⟩], some (7, false)⟩) rfl ?_; (try simp only [Act.put, List.setIfInBounds_toArray, List.set_cons_succ, List.set_cons_zero])
            refine tk (i := 16) (oi := ⟨some 59, .binOp .geq 3 (.tmp 56) (.tmp 58) 3, 4, "ref.go:97", #[⟨13, .data⟩, ⟨15, .data⟩, ⟨7, .guard⟩], some (7, false)⟩) rfl ?_; (try simp only [Act.put, List.setIfInBounds_toArray, List.set_cons_succ, List.set_cons_zero])
            refine tk (i := 17) (oi := ⟨some 60, .pick (.tmp 50) (.const (.bool true)) (.tmp 59), 4, "ref.go:97", #[⟨7, .data⟩, ⟨16, .data⟩], none⟩) rfl ?_; (try simp only [Act.put, List.setIfInBounds_toArray, List.set_cons_succ, List.set_cons_zero])
            refine tk (i := 18) (oi := ⟨some 61, .move (.tmp 60), 4, "ref.go:97", #[⟨17, .data⟩, ⟨14, .chain⟩], none⟩) rfl ?_; (try simp only [Act.put, List.setIfInBounds_toArray, List.set_cons_succ, List.set_cons_zero])
            refine tkN (i := 19) (oi := ⟨some 62, .fieldAddr 44 (.tmp 4) 1, 0, "ref.go:97", #[⟨18, .guard⟩], some (18, false)⟩) rfl ?_; (try simp only [Act.put, List.setIfInBounds_toArray, List.set_cons_succ, List.set_cons_zero])
            refine tkN (i := 20) (oi := ⟨some 63, .load 38 (.tmp 62), 38, "ref.go:97", #[⟨19, .data⟩, ⟨18, .guard⟩], some (18, false)⟩) rfl ?_; (try simp only [Act.put, List.setIfInBounds_toArray, List.set_cons_succ, List.set_cons_zero])
            refine tkN (i := 21) (oi := ⟨some 64, .move (.tmp 5), 3, "ref.go:97", #[⟨18, .guard⟩], some (18, false)⟩) rfl ?_; (try simp only [Act.put, List.setIfInBounds_toArray, List.set_cons_succ, List.set_cons_zero])
            refine tkN (i := 22) (oi := ⟨some 65, .indexAddr 38 (.tmp 63) (.tmp 64), 0, "ref.go:97", #[⟨20, .data⟩, ⟨21, .data⟩, ⟨18, .guard⟩], some (18, false)⟩) rfl ?_; (try simp only [Act.put, List.setIfInBounds_toArray, List.set_cons_succ, List.set_cons_zero])
            refine tkN (i := 23) (oi := ⟨some 66, .fieldAddr 48 (.tmp 65) 1, 0, "ref.go:97", #[⟨22, .data⟩, ⟨18, .guard⟩], some (18, false)⟩) rfl ?_; (try simp only [Act.put, List.setIfInBounds_toArray, List.set_cons_succ, List.set_cons_zero])
            refine tkN (i := 24) (oi := ⟨some 67, .load 45 (.tmp 66), 45, "ref.go:97", #[⟨23, .data⟩, ⟨18, .guard⟩], some (18, false)⟩) rfl ?_; (try simp only [Act.put, List.setIfInBounds_toArray, List.set_cons_succ, List.set_cons_zero])
            refine tkN (i := 25) (oi := ⟨some 68, .call { callee := .value (.func 43), args := #[.tmp 67], argTypes := #[45] }, 4, "ref.go:97", #[⟨24, .data⟩, ⟨18, .chain⟩, ⟨18, .guard⟩], some (18, false)⟩) rfl ?_; (try simp only [Act.put, List.setIfInBounds_toArray, List.set_cons_succ, List.set_cons_zero])
            refine tkN (i := 26) (oi := ⟨some 69, .unOp .not 4 (.tmp 68), 4, "ref.go:97", #[⟨25, .data⟩, ⟨18, .guard⟩], some (18, false)⟩) rfl ?_; (try simp only [Act.put, List.setIfInBounds_toArray, List.set_cons_succ, List.set_cons_zero])
            refine tk (i := 27) (oi := ⟨some 70, .pick (.tmp 61) (.const (.bool true)) (.tmp 69), 4, "ref.go:97", #[⟨18, .data⟩, ⟨26, .data⟩], none⟩) rfl ?_; (try simp only [Act.put, List.setIfInBounds_toArray, List.set_cons_succ, List.set_cons_zero])
            refine tk (i := 28) (oi := ⟨some 71, .move (.tmp 70), 4, "ref.go:97", #[⟨27, .data⟩, ⟨25, .chain⟩], none⟩) rfl ?_; (try simp only [Act.put, List.setIfInBounds_toArray, List.set_cons_succ, List.set_cons_zero])
            refine tkN (i := 29) (oi := ⟨some 72, .fieldAddr 44 (.tmp 4) 1, 0, "ref.go:97", #[⟨28, .guard⟩], some (28, false)⟩) rfl ?_; (try simp only [Act.put, List.setIfInBounds_toArray, List.set_cons_succ, List.set_cons_zero])
            refine tkN (i := 30) (oi := ⟨some 73, .load 38 (.tmp 72), 38, "ref.go:97", #[⟨29, .data⟩, ⟨28, .guard⟩], some (28, false)⟩) rfl ?_; (try simp only [Act.put, List.setIfInBounds_toArray, List.set_cons_succ, List.set_cons_zero])
            refine tkN (i := 31) (oi := ⟨some 74, .move (.tmp 5), 3, "ref.go:97", #[⟨28, .guard⟩], some (28, false)⟩) rfl ?_; (try simp only [Act.put, List.setIfInBounds_toArray, List.set_cons_succ, List.set_cons_zero])
            refine tkN (i := 32) (oi := ⟨some 75, .indexAddr 38 (.tmp 73) (.tmp 74), 0, "ref.go:97", #[⟨30, .data⟩, ⟨31, .data⟩, ⟨28, .guard⟩], some (28, false)⟩) rfl ?_; (try simp only [Act.put, List.setIfInBounds_toArray, List.set_cons_succ, List.set_cons_zero])
            refine tkN (i := 33) (oi := ⟨some 76, .fieldAddr 48 (.tmp 75) 1, 0, "ref.go:97", #[⟨32, .data⟩, ⟨28, .guard⟩], some (28, false)⟩) rfl ?_; (try simp only [Act.put, List.setIfInBounds_toArray, List.set_cons_succ, List.set_cons_zero])
            refine tkN (i := 34) (oi := ⟨some 77, .load 45 (.tmp 76), 45, "ref.go:97", #[⟨33, .data⟩, ⟨28, .guard⟩], some (28, false)⟩) rfl ?_; (try simp only [Act.put, List.setIfInBounds_toArray, List.set_cons_succ, List.set_cons_zero])
            refine tkN (i := 35) (oi := ⟨some 78, .binOp .eql 45 (.tmp 77) (.const (.int .i64 28)) 45, 4, "ref.go:97", #[⟨34, .data⟩, ⟨28, .guard⟩], some (28, false)⟩) rfl ?_; (try simp only [Act.put, List.setIfInBounds_toArray, List.set_cons_succ, List.set_cons_zero])
            refine tk (i := 36) (oi := ⟨some 79, .pick (.tmp 71) (.const (.bool true)) (.tmp 78), 4, "ref.go:97", #[⟨28, .data⟩, ⟨35, .data⟩], none⟩) rfl ?_; (try simp only [Act.put, List.setIfInBounds_toArray, List.set_cons_succ, List.set_cons_zero])
            refine wpAnyH_done (by kernel_rfl) ?_ _
            go_wp2
            go_ret
            exact ⟨by rw [HM.out, HF.out]; rfl, B0.out.trans (U5.out.mono B0.out.size)⟩
        · have hk2 : j = ins.length := by omega
          have hH : M = ((St.word St.endW fk).2 && (blocks.drop (i + 1)).all St.blkMay) := by rw [HRj.out, hk2, List.drop_length]; rfl
          rw [St.word_ok, hel] at hH
          have y0 : ¬ (j : Int) < (ins.length : Int) := by omega
          have HH := Lib.hid hH
          have S00 := Lib.hid t2
          clear hH hk2 t0 t2 t3 t4 t5 t6
          go_upto_region 12 with fail
          by_cases k0 : fk < 0
          · have k1 : decide (fk < 0) = true := by simpa using k0
            have HF : Hid (M = false) := Lib.hid (by rw [HH.out, show decide (0 ≤ fk) = false from by simpa using k0]; rfl)
            clear k0
            have S0 := S00.out
            have S0' : (fun W => W.cell? ⟨K, 2, none⟩ = some (.int .i64 fk)) (World.drew wr) := S0
            dsimp only at S0'
            refine wp_region_held_drew (S := (fun W => W.cell? ⟨K, 2, none⟩ = some (.int .i64 fk))) (by kernel_rfl) ?_ (fun hHeld0 => ?_)
            · first | assumption | go_keep
            refine tk (i := 0) (oi := ⟨some 80, .fieldAddr 44 (.tmp 4) 2, 0, "ref.go:101", #[], none⟩) rfl ?_; (try simp only [Act.put, List.setIfInBounds_toArray, List.set_cons_succ, List.set_cons_zero])
            refine tk (i := 1) (oi := ⟨some 81, .fieldAddr 42 (.tmp 80) 0, 0, "ref.go:101", #[⟨0, .data⟩], none⟩) rfl ?_; (try simp only [Act.put, List.setIfInBounds_toArray, List.set_cons_succ, List.set_cons_zero])
            refine tk (i := 2) (oi := ⟨some 82, .load 3 (.tmp 81), 3, "ref.go:101", #[⟨1, .data⟩], none⟩) rfl ?_; (try simp only [Act.put, List.setIfInBounds_toArray, List.set_cons_succ, List.set_cons_zero])
            refine tk (i := 3) (oi := ⟨some 83, .binOp .lss 3 (.tmp 82) (.const (.int .i64 0)) 3, 4, "ref.go:101", #[⟨2, .data⟩], none⟩) rfl ?_; (try simp only [Act.put, List.setIfInBounds_toArray, List.set_cons_succ, List.set_cons_zero])
            refine tk (i := 4) (oi := ⟨some 84, .move (.tmp 83), 4, "ref.go:101", #[⟨3, .data⟩], none⟩) rfl ?_; (try simp only [Act.put, List.setIfInBounds_toArray, List.set_cons_succ, List.set_cons_zero])
            refine tkN (i := 5) (oi := ⟨some 85, .fieldAddr 44 (.tmp 4) 2, 0, "ref.go:101", #[⟨4, .guard⟩], some (4, false)⟩) rfl ?_; (try simp only [Act.put, List.setIfInBounds_toArray, List.set_cons_succ, List.set_cons_zero])
            refine tkN (i := 6) (oi := ⟨some 86, .fieldAddr 42 (.tmp 85) 0, 0, "ref.go:101", #[⟨5, .data⟩, ⟨4, .guard⟩], some (4, false)⟩) rfl ?_; (try simp only [Act.put, List.setIfInBounds_toArray, List.set_cons_succ, List.set_cons_zero])
            refine tkN (i := 7) (oi := ⟨some 87, .load 3 (.tmp 86), 3, "ref.go:101", #[⟨6, .data⟩, ⟨4, .guard⟩], some (4, false)⟩) rfl ?_; (try simp only [Act.put, List.setIfInBounds_toArray, List.set_cons_succ, List.set_cons_zero])
            refine tkN (i := 8) (oi := ⟨some 88, .call { callee := .value (.func 44), args := #[], argTypes := #[] }, 54, "ref.go:101", #[⟨4, .chain⟩, ⟨4, .guard⟩], some (4, false)⟩) rfl ?_; (try simp only [Act.put, List.setIfInBounds_toArray, List.set_cons_succ, List.set_cons_zero])
            refine tkN (i := 9) (oi := ⟨some 89, .call { callee := .builtin .len, args := #[.tmp 88], argTypes := #[54] }, 3, "ref.go:101", #[⟨8, .data⟩, ⟨4, .guard⟩], some (4, false)⟩) rfl ?_; (try simp only [Act.put, List.setIfInBounds_toArray, List.set_cons_succ, List.set_cons_zero])
            refine tkN (i := 10) (oi := ⟨some 90, .binOp .geq 3 (.tmp 87) (.tmp 89) 3, 4, "ref.go:101", #[⟨7, .data⟩, ⟨9, .data⟩, ⟨4, .guard⟩], some (4, false)⟩) rfl ?_; (try simp only [Act.put, List.setIfInBounds_toArray, List.set_cons_succ, List.set_cons_zero])
            refine tk (i := 11) (oi := ⟨some 91, .pick (.tmp 84) (.const (.bool true)) (.tmp 90), 4, "ref.go:101", #[⟨4, .data⟩, ⟨10, .data⟩], none⟩) rfl ?_; (try simp only [Act.put, List.setIfInBounds_toArray, List.set_cons_succ, List.set_cons_zero])
            refine wpAnyH_done (by kernel_rfl) ?_ _
            go_wp2
            go_ret
            exact ⟨by rw [HM.out, HF.out]; rfl, B0.out.trans ((below_drewN wr _).mono B0.out.size)⟩
          by_cases k9 : fk < 5
          · have k1 : decide (fk < 0) = false := by simpa using k0
            have k2 : decide ((5 : Int) ≤ fk) = false := by simpa using k9
            have HF : Hid (M = (blocks.drop (i + 1)).all St.blkMay) := Lib.hid (by rw [HH.out, show decide (0 ≤ fk) = true from by simpa using k0, show decide (fk < ((5 : Nat) : Int)) = true from by simpa using k9]; rfl)
            clear k0 k9
            have S0 := S00.out
            have S0' : (fun W => W.cell? ⟨K, 2, none⟩ = some (.int .i64 fk)) (World.drew wr) := S0
            dsimp only at S0'
            refine wp_region_held_drew (S := (fun W => W.cell? ⟨K, 2, none⟩ = some (.int .i64 fk))) (by kernel_rfl) ?_ (fun hHeld0 => ?_)
            · first | assumption | go_keep
            refine tk (i := 0) (oi := ⟨some 80, .fieldAddr 44 (.tmp 4) 2, 0, "ref.go:101", #[], none⟩) rfl ?_; (try simp only [Act.put, List.setIfInBounds_toArray, List.set_cons_succ, List.set_cons_zero])
            refine tk (i := 1) (oi := ⟨some 81, .fieldAddr 42 (.tmp 80) 0, 0, "ref.go:101", #[⟨0, .data⟩], none⟩) rfl ?_; (try simp only [Act.put, List.setIfInBounds_toArray, List.set_cons_succ, List.set_cons_zero])
            refine tk (i := 2) (oi := ⟨some 82, .load 3 (.tmp 81), 3, "ref.go:101", #[⟨1, .data⟩], none⟩) rfl ?_; (try simp only [Act.put, List.setIfInBounds_toArray, List.set_cons_succ, List.set_cons_zero])
            refine tk (i := 3) (oi := ⟨some 83, .binOp .lss 3 (.tmp 82) (.const (.int .i64 0)) 3, 4, "ref.go:101", #[⟨2, .data⟩], none⟩) rfl ?_; (try simp only [Act.put, List.setIfInBounds_toArray, List.set_cons_succ, List.set_cons_zero])
            refine tk (i := 4) (oi := ⟨some 84, .move (.tmp 83), 4, "ref.go:101", #[⟨3, .data⟩], none⟩) rfl ?_; (try simp only [Act.put, List.setIfInBounds_toArray, List.set_cons_succ, List.set_cons_zero])
            refine tk (i := 5) (oi := ⟨some 85, .fieldAddr 44 (.tmp 4) 2, 0, "ref.go:101", #[⟨4, .guard⟩], some (4, false)⟩) rfl ?_; (try simp only [Act.put, List.setIfInBounds_toArray, List.set_cons_succ, List.set_cons_zero])
            refine tk (i := 6) (oi := ⟨some 86, .fieldAddr 42 (.tmp 85) 0, 0, "ref.go:101", #[⟨5, .data⟩, ⟨4, .guard⟩], some (4, false)⟩) rfl ?_; (try simp only [Act.put, List.setIfInBounds_toArray, List.set_cons_succ, List.set_cons_zero])
            refine tk (i := 7) (oi := ⟨some 87, .load 3 (.tmp 86), 3, "ref.go:101", #[⟨6, .data⟩, ⟨4, .guard⟩], some (4, false)⟩) rfl ?_; (try simp only [Act.put, List.setIfInBounds_toArray, List.set_cons_succ, List.set_cons_zero])
            refine wpAnyH_ready (rs := [8]) (by kernel_rfl) (by simp) ?_
            refine AllReadyH.cons (o := { dst := some 88, op := Go.Op.call { callee := Go.Callee.value (Go.Operand.func 44), args := #[], argTypes := #[] }, type := 54, pos := "ref.go:101", after := #[{ on := 4, ground := Go.Ground.chain }, { on := 4, ground := Go.Ground.guard }], guard := some (4, false) }) rfl (fun K hK => ?_) AllReadyH.nil
            go_simp
            (refine (rends_any _).mono ?_; rintro e w5 ⟨⟨A, rfl, -⟩, hb5⟩; have S5 := (Below.keep hb5 (fun _ => True)) _ _ trivial S0'; have U5 := Lib.hid ((below_drewN wr 1).trans (hb5.mono (Nat.le_refl _))))
            (try dsimp only)
            refine hK.out _ _ ?_ (fun hHeld1 => ?_)
            · first | trivial | ((try dsimp only); first | assumption | trivial | go_keep)
            clear hK K hHeld0
            (try simp only [Act.put, List.setIfInBounds_toArray, List.set_cons_succ, List.set_cons_zero])
            refine tk (i := 9) (oi := ⟨some 89, .call { callee := .builtin .len, args := #[.tmp 88], argTypes := #[54] }, 3, "ref.go:101", #[⟨8, .data⟩, ⟨4, .guard⟩], some (4, false)⟩) rfl ?_; (try simp only [Act.put, List.setIfInBounds_toArray, List.set_cons_succ, List.set_cons_zero])
            refine tk (i := 10) (oi := ⟨some 90, .binOp .geq 3 (.tmp 87) (.tmp 89) 3, 4, "ref.go:101", #[⟨7, .data⟩, ⟨9, .data⟩, ⟨4, .guard⟩], some (4, false)⟩) rfl ?_; (try simp only [Act.put, List.setIfInBounds_toArray, List.set_cons_succ, List.set_cons_zero])
            refine tk (i := 11) (oi := ⟨some 91, .pick (.tmp 84) (.const (.bool true)) (.tmp 90), 4, "ref.go:101", #[⟨4, .data⟩, ⟨10, .data⟩], none⟩) rfl ?_; (try simp only [Act.put, List.setIfInBounds_toArray, List.set_cons_succ, List.set_cons_zero])
            refine wpAnyH_done (by kernel_rfl) ?_ _
            clear S0 S0' S5 hb5
            go_wp2
            go_roundw
            case rel => exact ⟨i + 1, by go_num, by omega, Lib.hid (V0.out.below U5.out V0.out.lt), Lib.hid (B0.out.trans (U5.out.mono B0.out.size)), HF⟩
            case measure => simp [intOf]; omega
          · have k1 : decide (fk < 0) = false := by simpa using k0
            have k2 : decide ((5 : Int) ≤ fk) = true := by simpa using k9
            have HF : Hid (M = false) := Lib.hid (by rw [HH.out, show decide (0 ≤ fk) = true from by simpa using k0, show decide (fk < ((5 : Nat) : Int)) = false from by simpa using k9]; rfl)
            clear k0 k9
            have S0 := S00.out
            have S0' : (fun W => W.cell? ⟨K, 2, none⟩ = some (.int .i64 fk)) (World.drew wr) := S0
            dsimp only at S0'
            refine wp_region_held_drew (S := (fun W => W.cell? ⟨K, 2, none⟩ = some (.int .i64 fk))) (by kernel_rfl) ?_ (fun hHeld0 => ?_)
            · first | assumption | go_keep
            refine tk (i := 0) (oi := ⟨some 80, .fieldAddr 44 (.tmp 4) 2, 0, "ref.go:101", #[], none⟩) rfl ?_; (try simp only [Act.put, List.setIfInBounds_toArray, List.set_cons_succ, List.set_cons_zero])
            refine tk (i := 1) (oi := ⟨some 81, .fieldAddr 42 (.tmp 80) 0, 0, "ref.go:101", #[⟨0, .data⟩], none⟩) rfl ?_; (try simp only [Act.put, List.setIfInBounds_toArray, List.set_cons_succ, List.set_cons_zero])
            refine tk (i := 2) (oi := ⟨some 82, .load 3 (.tmp 81), 3, "ref.go:101", #[⟨1, .data⟩], none⟩) rfl ?_; (try simp only [Act.put, List.setIfInBounds_toArray, List.set_cons_succ, List.set_cons_zero])
            refine tk (i := 3) (oi := ⟨some 83, .binOp .lss 3 (.tmp 82) (.const (.int .i64 0)) 3, 4, "ref.go:101", #[⟨2, .data⟩], none⟩) rfl ?_; (try simp only [Act.put, List.setIfInBounds_toArray, List.set_cons_succ, List.set_cons_zero])
            refine tk (i := 4) (oi := ⟨some 84, .move (.tmp 83), 4, "ref.go:101", #[⟨3, .data⟩], none⟩) rfl ?_; (try simp only [Act.put, List.setIfInBounds_toArray, List.set_cons_succ, List.set_cons_zero])
            refine tk (i := 5) (oi := ⟨some 85, .fieldAddr 44 (.tmp 4) 2, 0, "ref.go:101", #[⟨4, .guard⟩], some (4, false)⟩) rfl ?_; (try simp only [Act.put, List.setIfInBounds_toArray, List.set_cons_succ, List.set_cons_zero])
            refine tk (i := 6) (oi := ⟨some 86, .fieldAddr 42 (.tmp 85) 0, 0, "ref.go:101", #[⟨5, .data⟩, ⟨4, .guard⟩], some (4, false)⟩) rfl ?_; (try simp only [Act.put, List.setIfInBounds_toArray, List.set_cons_succ, List.set_cons_zero])
            refine tk (i := 7) (oi := ⟨some 87, .load 3 (.tmp 86), 3, "ref.go:101", #[⟨6, .data⟩, ⟨4, .guard⟩], some (4, false)⟩) rfl ?_; (try simp only [Act.put, List.setIfInBounds_toArray, List.set_cons_succ, List.set_cons_zero])
            refine wpAnyH_ready (rs := [8]) (by kernel_rfl) (by simp) ?_
            refine AllReadyH.cons (o := { dst := some 88, op := Go.Op.call { callee := Go.Callee.value (Go.Operand.func 44), args := #[], argTypes := #[] }, type := 54, pos := "ref.go:101", after := #[{ on := 4, ground := Go.Ground.chain }, { on := 4, ground := Go.Ground.guard }], guard := some (4, false) }) rfl (fun K hK => ?_) AllReadyH.nil
            go_simp
            (refine (rends_any _).mono ?_; rintro e w5 ⟨⟨A, rfl, -⟩, hb5⟩; have S5 := (Below.keep hb5 (fun _ => True)) _ _ trivial S0'; have U5 := Lib.hid ((below_drewN wr 1).trans (hb5.mono (Nat.le_refl _))))
            (try dsimp only)
            refine hK.out _ _ ?_ (fun hHeld1 => ?_)
            · first | trivial | ((try dsimp only); first | assumption | trivial | go_keep)
            clear hK K hHeld0
            (try simp only [Act.put, List.setIfInBounds_toArray, List.set_cons_succ, List.set_cons_zero])
            refine tk (i := 9) (oi := ⟨some 89, .call { callee := .builtin .len, args := #[.tmp 88], argTypes := #[54] }, 3, "ref.go:101", #[⟨8, .data⟩, ⟨4, .guard⟩], some (4, false)⟩) rfl ?_; (try simp only [Act.put, List.setIfInBounds_toArray, List.set_cons_succ, List.set_cons_zero])
            refine tk (i := 10) (oi := ⟨some 90, .binOp .geq 3 (.tmp 87) (.tmp 89) 3, 4, "ref.go:101", #[⟨7, .data⟩, ⟨9, .data⟩, ⟨4, .guard⟩], some (4, false)⟩) rfl ?_; (try simp only [Act.put, List.setIfInBounds_toArray, List.set_cons_succ, List.set_cons_zero])
            refine tk (i := 11) (oi := ⟨some 91, .pick (.tmp 84) (.const (.bool true)) (.tmp 90), 4, "ref.go:101", #[⟨4, .data⟩, ⟨10, .data⟩], none⟩) rfl ?_; (try simp only [Act.put, List.setIfInBounds_toArray, List.set_cons_succ, List.set_cons_zero])
            refine wpAnyH_done (by kernel_rfl) ?_ _
            go_wp2
            go_ret
            exact ⟨by rw [HM.out, HF.out]; rfl, B0.out.trans (U5.out.mono B0.out.size)⟩
    · have hi2 : i = blocks.length := by omega
      have HF : Hid (M = true) := Lib.hid (by rw [HRi.out, hi2, List.drop_length]; rfl)
      have x0 : ¬ (i : Int) < (blocks.length : Int) := by omega
      clear hi2
      go_wp2
      go_ret
      exact ⟨by rw [HM.out, HF.out]; rfl, B0.out⟩
end Go.Proofs.YtmhmpobjjhbklaaGreatDoor
