/-
  Layer 40, the reference: Print. (Printed by gen_sr5.py.)
-/
import Derived.Test.YtmhmpobjjhbklaaGreatDoorSR4
import Derived.Test.YtmhmpobjjhbklaaGreatDoorSP1
set_option linter.unusedVariables false
set_option linter.unusedSimpArgs false
namespace Go.Proofs.YtmhmpobjjhbklaaGreatDoor
namespace St
theorem word_range {L : List (List UInt8)} {k : Int} (h : (word L k).2 = true) : 0 ≤ k ∧ k < L.length := by
  rw [word_ok] at h
  simpa using h
theorem may_range {x : Ssa} (h : may x = true) : ∀ b ∈ x.blocks, (0 ≤ b.fin.kind ∧ b.fin.kind < 5) ∧ ∀ y ∈ b.ins, 0 ≤ y.kind ∧ y.kind < 20 := by
  have hkl : kindW.length = 20 := by decide +kernel
  have hel : endW.length = 5 := by decide +kernel
  unfold may at h
  simp only [Bool.and_eq_true, List.all_eq_true] at h
  intro b hb
  have h1 := h.2.2.2 b hb
  unfold blkMay at h1
  simp only [Bool.and_eq_true, List.all_eq_true] at h1
  refine ⟨?_, fun y hy => ?_⟩
  · have := word_range h1.2; rw [hel] at this; exact this
  · have h2 := h1.1 y hy
    unfold insMay at h2
    simp only [Bool.and_eq_true] at h2
    have := word_range h2.1; rw [hkl] at this; exact this
end St
open Go.RowKit
open St (InR)

set_option maxHeartbeats 16000000 in
set_option maxRecDepth 100000 in
theorem rprint_any (x : St.Ssa) (hx : x.Ok) (hlen : (St.bodyR x).length ≤ 2000000) (S : Nat → Prop) (P R V B : Option Addr) (c1 c2 c3 c4 : Nat) (w : World) (h : SsaAt S w x P R V B) :
    Calls Tryz.prog 10 #[ssaV x P c1 R c2 V c3 B c4] w fun e w' => e = .returned (.string ⟨(St.printR x).toArray⟩) ∧ Below w.heap.size w w' := by
  have HW := Lib.hid (fun W (h : SsaAt S W x P R V B) => rmay_any x hx S P R V B c1 c2 c3 c4 W h)
  unfold ssaV at HW ⊢
  unfold St.printR
  obtain ⟨M, hM⟩ : ∃ b, St.may x = b := ⟨_, rfl⟩
  rw [hM] at HW ⊢
  have hmr := fun (hm : M = true) => St.may_range (hM.trans hm)
  have hbody : St.bodyR x = ([102, 117, 110, 99, 32] ++ Ty.text x.ps x.rs ++ [10, 118, 97, 108, 115]) ++ (St.sp (x.vals.map Ty.name) ++ ([10] ++ x.blocks.flatMap St.blkR)) := by unfold St.bodyR; simp
  clear hM
  obtain ⟨BODY, hB⟩ : ∃ y, St.bodyR x = y := ⟨_, rfl⟩
  rw [hB] at hbody hlen ⊢
  clear hB
  obtain ⟨m1, m2, m3, m4, m5⟩ := hx
  have hh := Lib.hid h
  obtain ⟨r1, r2, r3, r4⟩ := h
  have HTX := Lib.hid (fun W (hb : Below w.heap.size w W) => refText_any P R c1 c2 x.ps x.rs W ((r1.on' hb).rds.rdI) ((r2.on' hb).rds.rdI) m1 m2)
  have HV := Lib.hid (fun W (hb : Below w.heap.size w W) => (r3.on' hb).rds)
  have HB4 := Lib.hid (fun W (hb : Below w.heap.size w W) => RdT.blkOn r4 hb)
  have HM5 := Lib.hid m5
  have HMR := Lib.hid hmr
  clear r1 r2 r3 r4 m5 hmr
  obtain ⟨TX, htx⟩ : ∃ y, Ty.text x.ps x.rs = y := ⟨_, rfl⟩
  rw [htx] at HTX hbody
  have hlen0 := congrArg List.length hbody
  simp only [List.length_append, List.length_cons, List.length_nil] at hlen0
  obtain ⟨T0, hT0⟩ : ∃ y, [102, 117, 110, 99, 32] ++ TX ++ [10, 118, 97, 108, 115] = y := ⟨_, rfl⟩
  rw [hT0] at hbody
  have HE0 : Hid (ByteArray.mk #[102, 117, 110, 99, 32] ++ ByteArray.mk TX.toArray ++ ByteArray.mk #[10, 118, 97, 108, 115] = ByteArray.mk T0.toArray) := Lib.hid (by rw [← hT0]; apply ByteArray.ext; simp)
  have x5 : ¬ 9223372036854775807 < 5 + TX.length := by omega
  have x6 : ¬ 9223372036854775807 < 5 + TX.length + 5 := by omega
  obtain ⟨ps, rs, vals, blocks⟩ := x
  dsimp only at *
  have HBODY := Lib.hid hbody.symm
  clear htx hbody hT0 hlen0
  rcases M with _ | _
  · go_enter Tryz.func10, Tryz.ntmps10
    go_wp2_with (go_at_call 14; refine (HW.out _ (hh.out.on ((Below.refl _ _).alloc (Nat.le_refl _) _))).mono ?_; rintro e w1 ⟨rfl, hb⟩; have hB := below_one hb)
    go_ret
    exact ⟨rfl, hB⟩
  have HMS := Lib.hid (HMR.out rfl)
  clear HMR
  go_enter Tryz.func10, Tryz.ntmps10
  go_upto_region 3 with (go_at_call 14; refine (HW.out _ (hh.out.on ((Below.refl _ _).alloc (Nat.le_refl _) _))).mono ?_; rintro e w1 ⟨rfl, hb⟩; have hV := (Var.new w #[.slice P ps.length c1, .slice R rs.length c2, .slice V vals.length c3, .slice B blocks.length c4] 27).below hb (by simp); have hB := below_one hb; clear hb)
  refine at_code (F := fun W => Var W w.heap.size #[.slice P ps.length c1, .slice R rs.length c2, .slice V vals.length c3, .slice B blocks.length c4] 27 ∧ Below w.heap.size w W) ⟨hV, hB⟩ ?_
  clear hV hB hh HW
  rintro w0 ⟨V0, B0⟩
  obtain ⟨y0, y1, y2, y3⟩ := cells4 V0
  go_upto_region 4 with (go_at_call 23; refine (HTX.out _ B0).mono ?_; rintro e w1 ⟨rfl, hb⟩; have V1 := V0.below hb V0.lt; have B1 := B0.trans (hb.mono B0.size); clear hb)
  rw [HE0.out]
  refine at_code (F := fun W => Var W w.heap.size #[.slice P ps.length c1, .slice R rs.length c2, .slice V vals.length c3, .slice B blocks.length c4] 27 ∧ Below w.heap.size w W) ⟨V1, B1⟩ ?_
  clear V0 B0 V1 B1 y0 y1 y2 y3 HTX HE0 x5 x6
  rintro w0 ⟨V0, B0⟩
  go_wp2
  go_loopw [3, 4] (fun sv iv wr => ∃ (i : Nat) (T1 : List UInt8), iv = .int .i64 (i : Int) ∧ i ≤ vals.length ∧ sv = .string ⟨T1.toArray⟩ ∧ Hid (T1 ++ (St.sp ((vals.drop i).map Ty.name) ++ ([10] ++ blocks.flatMap St.blkR)) = BODY) ∧ Hid (Var wr w.heap.size #[.slice P ps.length c1, .slice R rs.length c2, .slice V vals.length c3, .slice B blocks.length c4] 27) ∧ Hid (Below w.heap.size w wr)) (fun _ iv _ => vals.length - (intOf iv).toNat)
  case atStart => exact ⟨0, T0, rfl, by omega, rfl, by simpa using HBODY, Lib.hid V0, Lib.hid B0⟩
  case round =>
    clear V0 B0 HBODY
    obtain ⟨i, T1, rfl, hi, rfl, HT, V0, B0⟩ := hrel
    obtain ⟨y0, y1, y2, y3⟩ := cells4 V0.out
    by_cases hia : i < vals.length
    · obtain ⟨gv, ov, rfl, hb1, e1⟩ := (HV.out _ B0.out).get hia
      have hd : vals.drop i = vals[i] :: vals.drop (i + 1) := List.drop_eq_getElem_cons hia
      have f0 := e1 0 _ rfl
      rw [Nat.add_zero, Nat.mul_one] at f0
      obtain ⟨z, hv⟩ : ∃ v, vals[i] = v := ⟨_, rfl⟩
      rw [hv] at f0 hd
      have HN := Lib.hid (fun W => refName_any z W)
      have hT := HT.out
      rw [hd, List.map_cons, St.sp_cons] at hT
      obtain ⟨s, hs⟩ : ∃ s, Ty.name z = s := ⟨_, rfl⟩
      rw [hs] at HN hT
      have hl := congrArg List.length hT
      simp only [List.length_append, List.length_cons, List.length_nil] at hl
      have x0 : (i : Int) < (vals.length : Int) := by omega
      have x2 : (0 : Int) ≤ (i : Int) := by omega
      have x3 : ¬ 9223372036854775807 < T1.length + 1 := by omega
      have x4 : ¬ 9223372036854775807 < T1.length + 1 + s.length := by omega
      have HE : Hid (ByteArray.mk T1.toArray ++ ByteArray.mk #[32] ++ ByteArray.mk s.toArray = ByteArray.mk (T1 ++ [32] ++ s).toArray) := Lib.hid (by apply ByteArray.ext; simp)
      have HT2 : Hid ((T1 ++ [32] ++ s) ++ (St.sp ((vals.drop (i + 1)).map Ty.name) ++ ([10] ++ blocks.flatMap St.blkR)) = BODY) := Lib.hid (by rw [← hT]; simp)
      clear hT hl hs hv e1 hd
      go_wp2_with (go_at_call 24; refine (HN.out _).mono ?_; rintro e w1 ⟨rfl, hb⟩)
      go_roundw
      case rel => exact ⟨i + 1, T1 ++ [32] ++ s, by go_num, by omega, congrArg Value.string HE.out, HT2, Lib.hid (V0.out.below hb V0.out.lt), Lib.hid (B0.out.trans (hb.mono B0.out.size))⟩
      case measure => simp [intOf]; omega
    · have hi2 : i = vals.length := by omega
      subst hi2
      have hT := HT.out
      rw [List.drop_length] at hT
      have hl := congrArg List.length hT
      simp only [List.length_append, List.length_cons, List.length_nil, List.map_nil, St.sp_nil] at hl
      have x0 : ¬ (vals.length : Int) < (vals.length : Int) := by omega
      have x3 : ¬ 9223372036854775807 < T1.length + 1 := by omega
      have HE := Lib.hid (cat2 T1 [10])
      have HT2 : Hid ((T1 ++ [10]) ++ (blocks.drop 0).flatMap St.blkR = BODY) := Lib.hid (by rw [← hT]; simp [St.sp_nil])
      clear hT hl HT
      go_wp2
      clear y0 y1 y2 y3 x3
      obtain ⟨W0, hW0⟩ : ∃ W0, wr = W0 := ⟨_, rfl⟩
      have V1 := V0
      have B1 := B0
      rw [hW0] at V1 B1 ⊢
      clear hW0 V0 B0
      go_loopw [3, 5] (fun sv iv wr => ∃ (i : Nat) (T1 : List UInt8), iv = .int .i64 (i : Int) ∧ i ≤ blocks.length ∧ sv = .string ⟨T1.toArray⟩ ∧ Hid (T1 ++ (blocks.drop i).flatMap St.blkR = BODY) ∧ Hid (Var wr w.heap.size #[.slice P ps.length c1, .slice R rs.length c2, .slice V vals.length c3, .slice B blocks.length c4] 27) ∧ Hid (Below w.heap.size w wr)) (fun _ iv _ => blocks.length - (intOf iv).toNat)
      case atStart => exact ⟨0, T1 ++ [10], rfl, by omega, congrArg Value.string HE.out, HT2, V1, B1⟩
      case round =>
        clear V1 B1 HE HT2
        obtain ⟨i, T1, rfl, hi, rfl, HT, V0, B0⟩ := hrel
        obtain ⟨y0, y1, y2, y3⟩ := cells4 V0.out
        by_cases hib : i < blocks.length
        · obtain ⟨g, o, rfl, hsg, hg, hblk⟩ := (HB4.out _ (Below.refl _ _)).get hib
          have hdi : blocks.drop i = blocks[i] :: blocks.drop (i + 1) := List.drop_eq_getElem_cons hib
          have hok := HM5.out blocks[i] (List.getElem_mem _)
          have hrg := HMS.out blocks[i] (List.getElem_mem _)
          obtain ⟨b, hbv⟩ : ∃ b, blocks[i] = b := ⟨_, rfl⟩
          rw [hbv] at hblk hdi hok hrg
          obtain ⟨Ap, cp, Ai, ci, Aa, ca, At, ct, ⟨q0, q1, q2, q3, q4, q5, q6⟩, p1, p2, p3, p4⟩ := hblk.seven
          have hkc := Below.keep B0.out (fun _ => True)
          replace q0 := hkc _ _ trivial q0; replace q1 := hkc _ _ trivial q1; replace q2 := hkc _ _ trivial q2; replace q3 := hkc _ _ trivial q3; replace q4 := hkc _ _ trivial q4; replace q5 := hkc _ _ trivial q5; replace q6 := hkc _ _ trivial q6
          have HFN := Lib.hid (fun W (hb : Below w.heap.size w W) => rfin40_any b.fin hok.fin hrg.1 S Aa ca At ct W (p3.on' hb).rds (p4.edgeOn hb))
          unfold finV at HFN
          have hT := HT.out
          rw [hdi, List.flatMap_cons, St.blkR] at hT
          have HPR := Lib.hid (fun W (hb : Below w.heap.size w W) => (p1.on' hb).rds)
          have HPO := Lib.hid hok.params.2
          have hpl := hok.params.1
          have hil := hok.ins.1
          have HIO := Lib.hid hok.ins.2
          have HIK := Lib.hid hrg.2
          have HP2 := Lib.hid p2
          obtain ⟨FT, hft⟩ : ∃ y, St.finR b.fin = y := ⟨_, rfl⟩
          rw [hft] at HFN hT
          obtain ⟨R5, hR5⟩ : ∃ y, (blocks.drop (i + 1)).flatMap St.blkR = y := ⟨_, rfl⟩
          rw [hR5] at hT
          have HR5 := Lib.hid hR5
          obtain ⟨params, ins, fk, fc, fa, fe, ft⟩ := b
          dsimp only at *
          have hl := congrArg List.length hT
          simp only [List.length_append, List.length_cons, List.length_nil] at hl
          have x0 : (i : Int) < (blocks.length : Int) := by omega
          have x2 : (0 : Int) ≤ (i : Int) := by omega
          have x3 : ¬ 9223372036854775807 < T1.length + 5 := by omega
          have HE := Lib.hid (cat2 T1 [98, 108, 111, 99, 107])
          have HT2 : Hid ((T1 ++ [98, 108, 111, 99, 107]) ++ (St.sp ((params.drop 0).map Lib.itoa) ++ ([10] ++ (ins.flatMap St.insR ++ (FT ++ R5)))) = BODY) := Lib.hid (by rw [← hT]; simp)
          clear hT hl hft hR5 hdi hbv hblk hok hrg p1 p2 p3 p4 hkc HT
          have HB1 := Lib.hid ((Below.refl wr.heap.size wr).alloc (Nat.le_refl _) (.cells #[.slice Ap params.length cp, .slice Ai ins.length ci, .int .i64 fk, .int .i64 fc, .slice Aa fa.length ca, .slice At fe.length ct, .int .i64 ft] 44))
          obtain ⟨K, hK⟩ : ∃ K, wr.heap.size = K := ⟨_, rfl⟩
          have HK0 := Lib.hid hK
          clear hK
          go_upto_region 13 with fail
          have hK := HK0.out
          refine at_code (F := fun W => Hid (Var W K #[.slice Ap params.length cp, .slice Ai ins.length ci, .int .i64 fk, .int .i64 fc, .slice Aa fa.length ca, .slice At fe.length ct, .int .i64 ft] 44) ∧ Hid (Var W w.heap.size #[.slice P ps.length c1, .slice R rs.length c2, .slice V vals.length c3, .slice (some ⟨g, o, none⟩) blocks.length c4] 27) ∧ Hid (Below w.heap.size w W)) ⟨Lib.hid (Var.newE _ _ _ hK), Lib.hid (V0.out.alloc _), Lib.hid (B0.out.trans (HB1.out.mono B0.out.size))⟩ ?_
          simp only [hK]
          clear V0 B0 HB1 q0 q1 q2 q3 q4 q5 q6 hg y0 y1 y2 y3
          clear hK HK0
          rintro w1 ⟨VK, V0, B0⟩
          obtain ⟨t0, t1, t2, t3, t4, t5, t6⟩ := cells7 VK.out
          go_wp2
          clear x3
          go_loopw [3, 7] (fun sv jv wq => ∃ (j : Nat) (T2 : List UInt8), jv = .int .i64 (j : Int) ∧ j ≤ params.length ∧ sv = .string ⟨T2.toArray⟩ ∧ Hid (T2 ++ (St.sp ((params.drop j).map Lib.itoa) ++ ([10] ++ (ins.flatMap St.insR ++ (FT ++ R5)))) = BODY) ∧ wq = w1) (fun _ jv _ => params.length - (intOf jv).toNat)
          case atStart => exact ⟨0, _, rfl, by omega, congrArg Value.string HE.out, HT2, rfl⟩
          case round =>
            clear HE HT2
            obtain ⟨j, T2, rfl, hj, rfl, HT, rfl⟩ := hrel
            by_cases hja : j < params.length
            · obtain ⟨ga, oa, rfl, hb1, e1⟩ := (HPR.out _ B0.out).get hja
              have hd : params.drop j = params[j] :: params.drop (j + 1) := List.drop_eq_getElem_cons hja
              have f0 := e1 0 _ rfl
              rw [Nat.add_zero, Nat.mul_one] at f0
              have hzo := HPO.out params[j] (List.getElem_mem _)
              obtain ⟨z, hv⟩ : ∃ v, params[j] = v := ⟨_, rfl⟩
              rw [hv] at f0 hd hzo
              have HN := Lib.hid (fun W => rnum_any z hzo W)
              have hT := HT.out
              rw [hd, List.map_cons, St.sp_cons] at hT
              obtain ⟨s, hs⟩ : ∃ s, Lib.itoa z = s := ⟨_, rfl⟩
              rw [hs] at HN hT
              have hl := congrArg List.length hT
              simp only [List.length_append, List.length_cons, List.length_nil] at hl
              have x10 : (j : Int) < (params.length : Int) := by omega
              have x12 : (0 : Int) ≤ (j : Int) := by omega
              have x3 : ¬ 9223372036854775807 < T2.length + 1 := by omega
              have x4 : ¬ 9223372036854775807 < T2.length + 1 + s.length := by omega
              have HE : Hid (ByteArray.mk T2.toArray ++ ByteArray.mk #[32] ++ ByteArray.mk s.toArray = ByteArray.mk (T2 ++ [32] ++ s).toArray) := Lib.hid (by apply ByteArray.ext; simp)
              have HT2 : Hid ((T2 ++ [32] ++ s) ++ (St.sp ((params.drop (j + 1)).map Lib.itoa) ++ ([10] ++ (ins.flatMap St.insR ++ (FT ++ R5)))) = BODY) := Lib.hid (by rw [← hT]; simp)
              clear hT hl hs hv e1 hd hzo
              go_wp2_with (go_at_call 25; refine (HN.out _).mono ?_; rintro e w2 ⟨rfl, rfl⟩)
              go_roundw
              case rel => exact ⟨j + 1, _, by go_num, by omega, congrArg Value.string HE.out, HT2, by trivial⟩
              case measure => simp [intOf]; omega
            · have hj2 : j = params.length := by omega
              have hT := HT.out
              rw [hj2, List.drop_length] at hT
              have hl := congrArg List.length hT
              simp only [List.length_append, List.length_cons, List.length_nil, List.map_nil, St.sp_nil] at hl
              have x10 : ¬ (j : Int) < (params.length : Int) := by omega
              have x3 : ¬ 9223372036854775807 < T2.length + 1 := by omega
              have HE := Lib.hid (cat2 T2 [10])
              have HT2 : Hid ((T2 ++ [10]) ++ ((ins.drop 0).flatMap St.insR ++ (FT ++ R5)) = BODY) := Lib.hid (by rw [← hT]; simp [St.sp_nil])
              clear hT hl HT hj2
              go_wp2
              clear x3 x10 hja t0 t1 t2 t3 t4 t5 t6
              go_loopw [3, 8] (fun sv kv wq => ∃ (k : Nat) (T2 : List UInt8), kv = .int .i64 (k : Int) ∧ k ≤ ins.length ∧ sv = .string ⟨T2.toArray⟩ ∧ Hid (T2 ++ ((ins.drop k).flatMap St.insR ++ (FT ++ R5)) = BODY) ∧ Hid (Var wq K #[.slice Ap params.length cp, .slice Ai ins.length ci, .int .i64 fk, .int .i64 fc, .slice Aa fa.length ca, .slice At fe.length ct, .int .i64 ft] 44) ∧ Hid (Var wq w.heap.size #[.slice P ps.length c1, .slice R rs.length c2, .slice V vals.length c3, .slice (some ⟨g, o, none⟩) blocks.length c4] 27) ∧ Hid (Below w.heap.size w wq)) (fun _ kv _ => ins.length - (intOf kv).toNat)
              case atStart => exact ⟨0, _, rfl, by omega, congrArg Value.string HE.out, HT2, VK, V0, B0⟩
              case round =>
                clear HE HT2 VK V0 B0 hj
                obtain ⟨k, T2, rfl, hk, rfl, HT, VK, V0, B0⟩ := hrel
                obtain ⟨t0, t1, t2, t3, t4, t5, t6⟩ := cells7 VK.out
                by_cases hka : k < ins.length
                · obtain ⟨gi, oi, rfl, hsi, hgi, d0, d1, d2, d3, d4, ⟨Ba, ba, d5, z5⟩, Bb, bb, d6, z6⟩ := HP2.out.get hka
                  have hkc := Below.keep B0.out (fun _ => True)
                  replace d0 := hkc _ _ trivial d0; replace d1 := hkc _ _ trivial d1; replace d2 := hkc _ _ trivial d2; replace d3 := hkc _ _ trivial d3; replace d4 := hkc _ _ trivial d4; replace d5 := hkc _ _ trivial d5; replace d6 := hkc _ _ trivial d6
                  have hd : ins.drop k = ins[k] :: ins.drop (k + 1) := List.drop_eq_getElem_cons hka
                  have hyo := HIO.out ins[k] (List.getElem_mem _)
                  have hyk := HIK.out ins[k] (List.getElem_mem _)
                  obtain ⟨y, hyv⟩ : ∃ y, ins[k] = y := ⟨_, rfl⟩
                  rw [hyv] at d0 d1 d2 d3 d4 d5 d6 z5 z6 hd hyo hyk
                  have HIN := Lib.hid (fun W (hb : Below w.heap.size w W) => rins_any y hyo hyk Ba ba Bb bb W (z5.on' hb).rds (z6.on' hb).rds)
                  unfold insV at HIN
                  have hT := HT.out
                  rw [hd, List.flatMap_cons] at hT
                  obtain ⟨s, hs⟩ : ∃ s, St.insR y = s := ⟨_, rfl⟩
                  rw [hs] at HIN hT
                  have hl := congrArg List.length hT
                  simp only [List.length_append] at hl
                  obtain ⟨ik, iop, ia, ib, inn, iar, iou⟩ := y
                  dsimp only at *
                  have x10 : (k : Int) < (ins.length : Int) := by omega
                  have x12 : (0 : Int) ≤ (k : Int) := by omega
                  have x3 : ¬ 9223372036854775807 < T2.length + s.length := by omega
                  have HE := Lib.hid (cat2 T2 s)
                  have HT2 : Hid ((T2 ++ s) ++ ((ins.drop (k + 1)).flatMap St.insR ++ (FT ++ R5)) = BODY) := Lib.hid (by rw [← hT]; simp)
                  clear hT hl hs hyv hd hyo hyk z5 z6 hkc HT
                  go_wp2_with (go_at_call 26; refine (HIN.out _ B0.out).mono ?_; rintro e w2 ⟨rfl, hb⟩)
                  go_roundw
                  case rel => exact ⟨k + 1, _, by go_num, by omega, congrArg Value.string HE.out, HT2, Lib.hid (VK.out.below hb VK.out.lt), Lib.hid (V0.out.below hb V0.out.lt), Lib.hid (B0.out.trans (hb.mono B0.out.size))⟩
                  case measure => simp [intOf]; omega
                · have hk2 : k = ins.length := by omega
                  have hT := HT.out
                  rw [hk2, List.drop_length, List.flatMap_nil, List.nil_append] at hT
                  have hl := congrArg List.length hT
                  simp only [List.length_append] at hl
                  have x10 : ¬ (k : Int) < (ins.length : Int) := by omega
                  have x3 : ¬ 9223372036854775807 < T2.length + FT.length := by omega
                  have HE := Lib.hid (cat2 T2 FT)
                  have HT2 : Hid ((T2 ++ FT) ++ (blocks.drop (i + 1)).flatMap St.blkR = BODY) := Lib.hid (by rw [HR5.out, ← hT]; simp)
                  clear hT hl HT hk2
                  go_wp2_with (go_at_call 27; refine (HFN.out _ B0.out).mono ?_; rintro e w2 ⟨rfl, hb⟩)
                  go_roundw
                  case rel => exact ⟨i + 1, _, by go_num, by omega, congrArg Value.string HE.out, HT2, Lib.hid (V0.out.below hb V0.out.lt), Lib.hid (B0.out.trans (hb.mono B0.out.size))⟩
                  case measure => simp [intOf]; omega
        · have hi2 : i = blocks.length := by omega
          have HF : Hid (T1 = BODY) := Lib.hid (by rw [← HT.out, hi2, List.drop_length]; simp)
          have x0 : ¬ (i : Int) < (blocks.length : Int) := by omega
          clear hi2
          go_wp2
          go_ret
          exact ⟨by rw [HF.out]; rfl, B0.out⟩
end Go.Proofs.YtmhmpobjjhbklaaGreatDoor
