/-
  The reference's opcodes: numbers, the whole table. (Printed by gen_opref.py.)
-/
import Derived.Test.YtmhmpobjjhbklaaGreatDoorOpLit
set_option linter.unusedVariables false
set_option linter.unusedSimpArgs false
namespace Go.Proofs.YtmhmpobjjhbklaaGreatDoor
open Go.RowKit

set_option maxHeartbeats 8000000 in
set_option maxRecDepth 100000 in
theorem rnums_any (first : Int) (typ : List UInt8) (A1 : Option Addr) (c1 n1 : Nat) (l : List (List UInt8)) (w : World) (h1 : RdS w w.heap.size A1 1 encS l) (hn : l.length = n1) (l1 : l.length ≤ 1000) (h0 : 0 ≤ first) (hf : first ≤ 1000000) (ht : typ.length ≤ 100) (hs : ∀ s ∈ l, s.length ≤ 1000) :
    Calls Tryz.prog 131 #[.int .i64 first, .string ⟨typ.toArray⟩, .slice A1 n1 c1] w fun e w' => (∃ A c, e = .returned (.slice A n1 c) ∧ w'.ownsRow w.heap.size 114 3 (.slice A n1 c) n1 ((Opc.nums first typ l).flatMap enc5)) ∧ Below w.heap.size w w' := by
  obtain ⟨i0, hi0, hz0, hz1, hz2⟩ := info_parts info_row5
  subst hn
  have HS := Lib.hid hs
  clear hs
  go_enter Tryz.func131, Tryz.ntmps131
  go_wp2
  go_loopw [7, 8] (fun ov iv wr => ∃ (i : Nat) (A : Option Addr) (c : Nat), ov = .slice A i c ∧ iv = .int .i64 (i : Int) ∧ i ≤ l.length ∧ RdS wr w.heap.size A1 1 encS l ∧ wr.ownsRow w.heap.size 114 3 (.slice A i c) i ((Opc.nums first typ (l.take i)).flatMap enc5) ∧ Below w.heap.size w wr) (fun _ iv _ => l.length - (intOf iv).toNat)
  case atStart => exact ⟨0, none, 0, rfl, rfl, by omega, h1, World.ownsRow_nil _ _ _ _, Below.refl _ _⟩
  case round =>
    obtain ⟨i, A, c, rfl, rfl, hi, k1, hown, hB⟩ := hrel
    by_cases hia : i < l.length
    · obtain ⟨ga, oa, rfl, hb1, e1⟩ := k1.get hia
      have ht2 : l.take (i + 1) = l.take i ++ [l[i]] := List.take_succ_eq_append_getElem hia
      have hss := HS.out l[i] (List.getElem_mem _)
      have hnl : (Opc.nums first typ (l.take i)).length = i := by rw [Opc.nums_len]; simp; omega
      obtain ⟨s, hv⟩ : ∃ v, l[i] = v := ⟨_, rfl⟩
      rw [hv] at e1 ht2 hss
      have f0 := e1 0 _ rfl
      rw [Nat.add_zero, Nat.mul_one] at f0
      have x0 : (i : Int) < (l.length : Int) := by omega
      have x2 : (0 : Int) ≤ (i : Int) := by omega
      have x3 : decide (i < l.length) = true := by simpa using hia
      have hsz := hB.size
      have w1 : IntKind.i64.wrap (first + (i : Int)) = first + (i : Int) := by rw [IntKind.wrap_i64]; omega
      have z1 : (ByteArray.mk typ.toArray).size = typ.length := by simp [ByteArray.size]
      have K1 := Lib.hid k1
      have HSN : Hid ((Opc.nums first typ (l.take (i + 1))).flatMap enc5 = (Opc.nums first typ (l.take i)).flatMap enc5 ++ (enc5 (first + (i : Int), typ ++ [46] ++ s, 0))) := Lib.hid (by
        rw [ht2, Opc.nums_snoc, List.flatMap_append]
        have : (l.take i).length = i := by simp; omega
        rw [this]; simp)
      clear k1 e1 hv ht2
      have hM : ∀ W : World, Reads (W.alloc (.cells #[.int .i64 (first + (i : Int)), .string ⟨(typ ++ [46] ++ s).toArray⟩, .int .i64 0] 114)) (W.alloc (.cells #[.int .i64 (first + (i : Int)), .string ⟨(typ ++ [46] ++ s).toArray⟩, .int .i64 0] 114)).heap.size 3 (some ⟨W.heap.size, 0, none⟩) 1 ([((first + (i : Int), typ ++ [46] ++ s, 0) : Opc.R)].flatMap enc5) := fun W => block_reads rfl (heap_alloc_new W _)
      have e3 : (ByteArray.mk typ.toArray ++ ByteArray.mk #[46] ++ ByteArray.mk s.toArray) = ByteArray.mk (typ ++ [46] ++ s).toArray := by apply ByteArray.ext; simp
      have HM := Lib.hid hM
      have HE := Lib.hid e3
      clear hM e3
      go_wp2_with (at_builtin; rw [HE.out]; refine app_rs Tryz.underlying150 hi0 hz0 hz1 hz2 rfl (by omega) enc5_len enc5_one _ rfl (.tmp 15) (.tmp 27) rfl w.heap.size _ i _ (by rfl) (hown.alloc _) [((first + (i : Int), typ ++ [46] ++ s, 0) : Opc.R)] 1 1 _ rfl (by rfl) (HM.out wr) (by omega) (by omega) (by simp; omega) ?_; intro A' c' w2 hown2 hg; have HB2 := Lib.hid ((hB.alloc hsz _).trans (below_own (hown.alloc _) hg (by simp; omega))); have HB3 := Lib.hid (((Below.refl w.heap.size wr).alloc hsz _).trans (below_own (hown.alloc _) hg (by simp; omega))))
      go_round
      case rel => exact ⟨i + 1, A', c', rfl, by go_num, by omega, K1.out.below HB3.out, by rw [HSN.out]; simpa [List.flatMap_append] using hown2, HB2.out⟩
      case measure => simp [intOf]; omega
    · have hi2 : i = l.length := by omega
      subst hi2
      rw [List.take_length] at hown
      have x3 : decide (l.length < l.length) = false := by simp
      clear k1
      go_wp2
      go_ret
      exact ⟨⟨A, c, rfl, hown⟩, hB⟩

set_option maxHeartbeats 16000000 in
set_option maxRecDepth 100000 in
theorem rrows_any (w : World) : Calls Tryz.prog 108 #[] w fun e w' => (∃ A c, e = .returned (.slice A 125 c) ∧ RdS w' w'.heap.size A 3 enc5 Opc.refRows) ∧ Below w.heap.size w w' := by
  obtain ⟨i0, hi0, hz0, hz1, hz2⟩ := info_parts info_row5
  go_enter Tryz.func108, Tryz.ntmps108
  go_upto_region 2 with (first
    | (go_at_call 129; refine (rctl_any _).mono ?_; rintro e w1 ⟨⟨A1, c1, rfl, hown⟩, hb⟩; have hsz := hb.size)
    | (go_at_call 130; refine (racc_any _).mono ?_; rintro e w2 ⟨⟨A2, c2, rfl, hown2⟩, hb2⟩; have hb := hb.trans (hb2.mono hsz); have hown := own_below hown hb2 (Nat.le_refl _); have hsz := hb.size; have hrd := (own_rds enc5_len (by omega) hown2).reads enc5_len)
    | (at_builtin; refine app_rs Tryz.underlying150 hi0 hz0 hz1 hz2 rfl (by omega) enc5_len enc5_one _ rfl (.tmp 2) (.tmp 3) rfl w.heap.size _ 23 Opc.ctl (by rfl) hown Opc.acc 23 _ _ (by kernel_rfl) (by rfl) hrd (by omega) (by omega) hsz ?_; intro A' c' wn hown' hg; have hbn := hb.trans (below_own hown hg hsz)))
  refine at_code (F := fun W => W.ownsRow w.heap.size 114 3 (.slice A' 46 c') 46 ((Opc.ctl ++ Opc.acc).flatMap enc5) ∧ Below w.heap.size w W) ⟨hown', hbn⟩ ?_
  clear hown' hbn hg
  (try clear hb hb2 hown hown2 hsz hrd)
  (try clear hb hb2 hb3 hown hsz hrd hrs hq hown3)
  revert A' c'; intro A c
  rintro w0 ⟨hown, hb⟩
  have hsz := hb.size
  go_upto_region 3 with (first
    | (go_at_call 132; refine (rcmps_any _).mono ?_; rintro e w1 ⟨⟨A1, c1, rfl, hrs⟩, hq⟩; have hown := own_below hown hq (Nat.le_refl _); have hb := hb.trans (hq.mono hsz); have hsz := hb.size)
    | (go_at_call 131; refine (rnums_any 69 Opc.i32 _ _ 11 Opc.cmps _ hrs (by kernel_rfl) (by decide) (by omega) (by omega) (by decide) (by decide)).mono ?_; rintro e w2 ⟨⟨A2, c2, rfl, hown3⟩, hb3⟩; have hown := own_below hown hb3 (Nat.le_refl _); have hb := hb.trans (hb3.mono hsz); have hsz := hb.size; have hrd := (own_rds enc5_len (by omega) hown3).reads enc5_len)
    | (at_builtin; refine app_rs Tryz.underlying150 hi0 hz0 hz1 hz2 rfl (by omega) enc5_len enc5_one _ rfl (.tmp 5) (.tmp 7) rfl w.heap.size _ 46 (Opc.ctl ++ Opc.acc) (by rfl) hown (Opc.nums 69 Opc.i32 Opc.cmps) 11 _ _ (by kernel_rfl) (by rfl) hrd (by omega) (by omega) hsz ?_; intro A' c' wn hown' hg; have hbn := hb.trans (below_own hown hg hsz)))
  refine at_code (F := fun W => W.ownsRow w.heap.size 114 3 (.slice A' 57 c') 57 (((Opc.ctl ++ Opc.acc) ++ Opc.nums 69 Opc.i32 Opc.cmps).flatMap enc5) ∧ Below w.heap.size w W) ⟨hown', hbn⟩ ?_
  clear hown' hbn hg
  (try clear hb hb2 hown hown2 hsz hrd)
  (try clear hb hb2 hb3 hown hsz hrd hrs hq hown3)
  revert A' c'; intro A c
  rintro w0 ⟨hown, hb⟩
  have hsz := hb.size
  go_upto_region 4 with (first
    | (go_at_call 132; refine (rcmps_any _).mono ?_; rintro e w1 ⟨⟨A1, c1, rfl, hrs⟩, hq⟩; have hown := own_below hown hq (Nat.le_refl _); have hb := hb.trans (hq.mono hsz); have hsz := hb.size)
    | (go_at_call 131; refine (rnums_any 80 Opc.i64 _ _ 11 Opc.cmps _ hrs (by kernel_rfl) (by decide) (by omega) (by omega) (by decide) (by decide)).mono ?_; rintro e w2 ⟨⟨A2, c2, rfl, hown3⟩, hb3⟩; have hown := own_below hown hb3 (Nat.le_refl _); have hb := hb.trans (hb3.mono hsz); have hsz := hb.size; have hrd := (own_rds enc5_len (by omega) hown3).reads enc5_len)
    | (at_builtin; refine app_rs Tryz.underlying150 hi0 hz0 hz1 hz2 rfl (by omega) enc5_len enc5_one _ rfl (.tmp 9) (.tmp 11) rfl w.heap.size _ 57 ((Opc.ctl ++ Opc.acc) ++ Opc.nums 69 Opc.i32 Opc.cmps) (by rfl) hown (Opc.nums 80 Opc.i64 Opc.cmps) 11 _ _ (by kernel_rfl) (by rfl) hrd (by omega) (by omega) hsz ?_; intro A' c' wn hown' hg; have hbn := hb.trans (below_own hown hg hsz)))
  refine at_code (F := fun W => W.ownsRow w.heap.size 114 3 (.slice A' 68 c') 68 ((((Opc.ctl ++ Opc.acc) ++ Opc.nums 69 Opc.i32 Opc.cmps) ++ Opc.nums 80 Opc.i64 Opc.cmps).flatMap enc5) ∧ Below w.heap.size w W) ⟨hown', hbn⟩ ?_
  clear hown' hbn hg
  (try clear hb hb2 hown hown2 hsz hrd)
  (try clear hb hb2 hb3 hown hsz hrd hrs hq hown3)
  revert A' c'; intro A c
  rintro w0 ⟨hown, hb⟩
  have hsz := hb.size
  go_upto_region 5 with (first
    | (go_at_call 133; refine (rtwos_any _).mono ?_; rintro e w1 ⟨⟨A1, c1, rfl, hrs⟩, hq⟩; have hown := own_below hown hq (Nat.le_refl _); have hb := hb.trans (hq.mono hsz); have hsz := hb.size)
    | (go_at_call 131; refine (rnums_any 103 Opc.i32 _ _ 18 Opc.twos _ hrs (by kernel_rfl) (by decide) (by omega) (by omega) (by decide) (by decide)).mono ?_; rintro e w2 ⟨⟨A2, c2, rfl, hown3⟩, hb3⟩; have hown := own_below hown hb3 (Nat.le_refl _); have hb := hb.trans (hb3.mono hsz); have hsz := hb.size; have hrd := (own_rds enc5_len (by omega) hown3).reads enc5_len)
    | (at_builtin; refine app_rs Tryz.underlying150 hi0 hz0 hz1 hz2 rfl (by omega) enc5_len enc5_one _ rfl (.tmp 13) (.tmp 15) rfl w.heap.size _ 68 (((Opc.ctl ++ Opc.acc) ++ Opc.nums 69 Opc.i32 Opc.cmps) ++ Opc.nums 80 Opc.i64 Opc.cmps) (by rfl) hown (Opc.nums 103 Opc.i32 Opc.twos) 18 _ _ (by kernel_rfl) (by rfl) hrd (by omega) (by omega) hsz ?_; intro A' c' wn hown' hg; have hbn := hb.trans (below_own hown hg hsz)))
  refine at_code (F := fun W => W.ownsRow w.heap.size 114 3 (.slice A' 86 c') 86 (((((Opc.ctl ++ Opc.acc) ++ Opc.nums 69 Opc.i32 Opc.cmps) ++ Opc.nums 80 Opc.i64 Opc.cmps) ++ Opc.nums 103 Opc.i32 Opc.twos).flatMap enc5) ∧ Below w.heap.size w W) ⟨hown', hbn⟩ ?_
  clear hown' hbn hg
  (try clear hb hb2 hown hown2 hsz hrd)
  (try clear hb hb2 hb3 hown hsz hrd hrs hq hown3)
  revert A' c'; intro A c
  rintro w0 ⟨hown, hb⟩
  have hsz := hb.size
  go_upto_region 6 with (first
    | (go_at_call 133; refine (rtwos_any _).mono ?_; rintro e w1 ⟨⟨A1, c1, rfl, hrs⟩, hq⟩; have hown := own_below hown hq (Nat.le_refl _); have hb := hb.trans (hq.mono hsz); have hsz := hb.size)
    | (go_at_call 131; refine (rnums_any 121 Opc.i64 _ _ 18 Opc.twos _ hrs (by kernel_rfl) (by decide) (by omega) (by omega) (by decide) (by decide)).mono ?_; rintro e w2 ⟨⟨A2, c2, rfl, hown3⟩, hb3⟩; have hown := own_below hown hb3 (Nat.le_refl _); have hb := hb.trans (hb3.mono hsz); have hsz := hb.size; have hrd := (own_rds enc5_len (by omega) hown3).reads enc5_len)
    | (at_builtin; refine app_rs Tryz.underlying150 hi0 hz0 hz1 hz2 rfl (by omega) enc5_len enc5_one _ rfl (.tmp 17) (.tmp 19) rfl w.heap.size _ 86 ((((Opc.ctl ++ Opc.acc) ++ Opc.nums 69 Opc.i32 Opc.cmps) ++ Opc.nums 80 Opc.i64 Opc.cmps) ++ Opc.nums 103 Opc.i32 Opc.twos) (by rfl) hown (Opc.nums 121 Opc.i64 Opc.twos) 18 _ _ (by kernel_rfl) (by rfl) hrd (by omega) (by omega) hsz ?_; intro A' c' wn hown' hg; have hbn := hb.trans (below_own hown hg hsz)))
  refine at_code (F := fun W => W.ownsRow w.heap.size 114 3 (.slice A' 104 c') 104 ((((((Opc.ctl ++ Opc.acc) ++ Opc.nums 69 Opc.i32 Opc.cmps) ++ Opc.nums 80 Opc.i64 Opc.cmps) ++ Opc.nums 103 Opc.i32 Opc.twos) ++ Opc.nums 121 Opc.i64 Opc.twos).flatMap enc5) ∧ Below w.heap.size w W) ⟨hown', hbn⟩ ?_
  clear hown' hbn hg
  (try clear hb hb2 hown hown2 hsz hrd)
  (try clear hb hb2 hb3 hown hsz hrd hrs hq hown3)
  revert A' c'; intro A c
  rintro w0 ⟨hown, hb⟩
  have hsz := hb.size
  have hm6 := block_reads (k := 3) (m := 3) rfl (heap_alloc_new w0 (.cells (Opc.mid.flatMap enc5).toArray 114))
  go_upto_region 7 with (first
    | (at_builtin; refine app_rs Tryz.underlying150 hi0 hz0 hz1 hz2 rfl (by omega) enc5_len enc5_one _ rfl (.tmp 21) (.tmp 25) rfl w.heap.size _ 104 (((((Opc.ctl ++ Opc.acc) ++ Opc.nums 69 Opc.i32 Opc.cmps) ++ Opc.nums 80 Opc.i64 Opc.cmps) ++ Opc.nums 103 Opc.i32 Opc.twos) ++ Opc.nums 121 Opc.i64 Opc.twos) (by rfl) (hown.alloc _) Opc.mid 3 _ _ (by kernel_rfl) (by rfl) hm6 (by omega) (by omega) (by simp; omega) ?_; intro A' c' wn hown' hg; have hbn := (hb.alloc hsz _).trans (below_own (hown.alloc _) hg (by simp; omega))))
  refine at_code (F := fun W => W.ownsRow w.heap.size 114 3 (.slice A' 107 c') 107 (((((((Opc.ctl ++ Opc.acc) ++ Opc.nums 69 Opc.i32 Opc.cmps) ++ Opc.nums 80 Opc.i64 Opc.cmps) ++ Opc.nums 103 Opc.i32 Opc.twos) ++ Opc.nums 121 Opc.i64 Opc.twos) ++ Opc.mid).flatMap enc5) ∧ Below w.heap.size w W) ⟨hown', hbn⟩ ?_
  clear hown' hbn hg
  (try clear hb hb2 hown hown2 hsz hrd)
  (try clear hb hb2 hb3 hown hsz hrd hrs hq hown3)
  (try clear hb hown hsz hm6)
  revert A' c'; intro A c
  rintro w0 ⟨hown, hb⟩
  have hsz := hb.size
  have hrs := block_rds encS_len (l := Opc.exA) rfl (heap_alloc_new w0 (.cells (Opc.exA.flatMap encS).toArray 9))
  have hown := hown.alloc (.cells (Opc.exA.flatMap encS).toArray 9)
  have hb := hb.alloc hsz (.cells (Opc.exA.flatMap encS).toArray 9)
  have hsz := hb.size
  go_upto_region 8 with (first
    | (go_at_call 131; refine (rnums_any 192 Opc.i32 _ _ 2 Opc.exA _ hrs (by kernel_rfl) (by decide) (by omega) (by omega) (by decide) (by decide)).mono ?_; rintro e w2 ⟨⟨A2, c2, rfl, hown3⟩, hb3⟩; have hown := own_below hown hb3 (Nat.le_refl _); have hb := hb.trans (hb3.mono hsz); have hsz := hb.size; have hrd := (own_rds enc5_len (by omega) hown3).reads enc5_len)
    | (at_builtin; refine app_rs Tryz.underlying150 hi0 hz0 hz1 hz2 rfl (by omega) enc5_len enc5_one _ rfl (.tmp 27) (.tmp 29) rfl w.heap.size _ 107 ((((((Opc.ctl ++ Opc.acc) ++ Opc.nums 69 Opc.i32 Opc.cmps) ++ Opc.nums 80 Opc.i64 Opc.cmps) ++ Opc.nums 103 Opc.i32 Opc.twos) ++ Opc.nums 121 Opc.i64 Opc.twos) ++ Opc.mid) (by rfl) hown (Opc.nums 192 Opc.i32 Opc.exA) 2 _ _ (by kernel_rfl) (by rfl) hrd (by omega) (by omega) hsz ?_; intro A' c' wn hown' hg; have hbn := hb.trans (below_own hown hg hsz)))
  refine at_code (F := fun W => W.ownsRow w.heap.size 114 3 (.slice A' 109 c') 109 ((((((((Opc.ctl ++ Opc.acc) ++ Opc.nums 69 Opc.i32 Opc.cmps) ++ Opc.nums 80 Opc.i64 Opc.cmps) ++ Opc.nums 103 Opc.i32 Opc.twos) ++ Opc.nums 121 Opc.i64 Opc.twos) ++ Opc.mid) ++ Opc.nums 192 Opc.i32 Opc.exA).flatMap enc5) ∧ Below w.heap.size w W) ⟨hown', hbn⟩ ?_
  clear hown' hbn hg
  (try clear hb hb2 hown hown2 hsz hrd)
  (try clear hb hb2 hb3 hown hsz hrd hrs hq hown3)
  revert A' c'; intro A c
  rintro w0 ⟨hown, hb⟩
  have hsz := hb.size
  have hrs := block_rds encS_len (l := Opc.exB) rfl (heap_alloc_new w0 (.cells (Opc.exB.flatMap encS).toArray 9))
  have hown := hown.alloc (.cells (Opc.exB.flatMap encS).toArray 9)
  have hb := hb.alloc hsz (.cells (Opc.exB.flatMap encS).toArray 9)
  have hsz := hb.size
  go_upto_region 9 with (first
    | (go_at_call 131; refine (rnums_any 194 Opc.i64 _ _ 3 Opc.exB _ hrs (by kernel_rfl) (by decide) (by omega) (by omega) (by decide) (by decide)).mono ?_; rintro e w2 ⟨⟨A2, c2, rfl, hown3⟩, hb3⟩; have hown := own_below hown hb3 (Nat.le_refl _); have hb := hb.trans (hb3.mono hsz); have hsz := hb.size; have hrd := (own_rds enc5_len (by omega) hown3).reads enc5_len)
    | (at_builtin; refine app_rs Tryz.underlying150 hi0 hz0 hz1 hz2 rfl (by omega) enc5_len enc5_one _ rfl (.tmp 31) (.tmp 33) rfl w.heap.size _ 109 (((((((Opc.ctl ++ Opc.acc) ++ Opc.nums 69 Opc.i32 Opc.cmps) ++ Opc.nums 80 Opc.i64 Opc.cmps) ++ Opc.nums 103 Opc.i32 Opc.twos) ++ Opc.nums 121 Opc.i64 Opc.twos) ++ Opc.mid) ++ Opc.nums 192 Opc.i32 Opc.exA) (by rfl) hown (Opc.nums 194 Opc.i64 Opc.exB) 3 _ _ (by kernel_rfl) (by rfl) hrd (by omega) (by omega) hsz ?_; intro A' c' wn hown' hg; have hbn := hb.trans (below_own hown hg hsz)))
  refine at_code (F := fun W => W.ownsRow w.heap.size 114 3 (.slice A' 112 c') 112 (((((((((Opc.ctl ++ Opc.acc) ++ Opc.nums 69 Opc.i32 Opc.cmps) ++ Opc.nums 80 Opc.i64 Opc.cmps) ++ Opc.nums 103 Opc.i32 Opc.twos) ++ Opc.nums 121 Opc.i64 Opc.twos) ++ Opc.mid) ++ Opc.nums 192 Opc.i32 Opc.exA) ++ Opc.nums 194 Opc.i64 Opc.exB).flatMap enc5) ∧ Below w.heap.size w W) ⟨hown', hbn⟩ ?_
  clear hown' hbn hg
  (try clear hb hb2 hown hown2 hsz hrd)
  (try clear hb hb2 hb3 hown hsz hrd hrs hq hown3)
  revert A' c'; intro A c
  rintro w0 ⟨hown, hb⟩
  have hsz := hb.size
  go_wp2_with (first
    | (go_at_call 134; refine (rfin_any _).mono ?_; rintro e w2 ⟨⟨A2, c2, rfl, hown2⟩, hb2⟩; have hown := own_below hown hb2 (Nat.le_refl _); have hb := hb.trans (hb2.mono hsz); have hsz := hb.size; have hrd := (own_rds enc5_len (by omega) hown2).reads enc5_len)
    | (at_builtin; refine app_rs Tryz.underlying150 hi0 hz0 hz1 hz2 rfl (by omega) enc5_len enc5_one _ rfl (.tmp 35) (.tmp 36) rfl w.heap.size _ 112 ((((((((Opc.ctl ++ Opc.acc) ++ Opc.nums 69 Opc.i32 Opc.cmps) ++ Opc.nums 80 Opc.i64 Opc.cmps) ++ Opc.nums 103 Opc.i32 Opc.twos) ++ Opc.nums 121 Opc.i64 Opc.twos) ++ Opc.mid) ++ Opc.nums 192 Opc.i32 Opc.exA) ++ Opc.nums 194 Opc.i64 Opc.exB) (by rfl) hown Opc.fin 13 _ _ (by kernel_rfl) (by rfl) hrd (by omega) (by omega) hsz ?_; intro A' c' wn hown' hg; have hbn := hb.trans (below_own hown hg hsz)))
  go_ret
  exact ⟨⟨A', c', rfl, own_rds enc5_len (by omega) hown'⟩, hbn⟩
end Go.Proofs.YtmhmpobjjhbklaaGreatDoor
