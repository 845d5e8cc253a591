/-
  Layer 40, the program: the walk of readEnd. (Printed by gen_so7.py.)
-/
import Derived.Test.YtmhmpobjjhbklaaGreatDoorTk
import Derived.Test.YtmhmpobjjhbklaaGreatDoorSO6
set_option linter.unusedVariables false
set_option linter.unusedSimpArgs false
namespace Go.Proofs.YtmhmpobjjhbklaaGreatDoor
open Go.RowKit
open St (InR)
namespace St
theorem edgesO_false {f : Nat} {r : Rs} (h : (takeO lTo r).1 = false) : edgesO f r = ([], r) := by
  cases f with
  | zero => rfl
  | succ f => unfold edgesO; rw [if_neg (by rw [h]; decide)]
theorem edgesO_true {f : Nat} {r : Rs} (h : (takeO lTo r).1 = true) : edgesO (f + 1) r = (⟨(numO (takeO lTo r).2).1, (numsO (numO (takeO lTo r).2).2).1⟩ :: (edgesO f (numsO (numO (takeO lTo r).2).2).2).1, (edgesO f (numsO (numO (takeO lTo r).2).2).2).2) := by
  conv => lhs; unfold edgesO
  rw [if_pos h]
theorem tail_le (l : List W) : l.tail.length ≤ l.length := by rw [List.length_tail]; omega
end St
theorem one_edge (W : World) (p : EdV) : Reads (W.alloc (.cells #[.int .i64 p.1.tgt, .slice p.2.1 p.1.args.length p.2.2] 50)) (W.alloc (.cells #[.int .i64 p.1.tgt, .slice p.2.1 p.1.args.length p.2.2] 50)).heap.size 2 (some ⟨W.heap.size, 0, none⟩) 1 ([p].flatMap encE) := block_reads (cs := #[.int .i64 p.1.tgt, .slice p.2.1 p.1.args.length p.2.2]) rfl (heap_alloc_new W _)
theorem endFin {w W X : World} {K1 Kr Kx : Nat} {x : St.Fin} {r : St.Rs} {A B : Option Addr} {c d : Nat} {L : List EdV} (S : EndAt w W K1 Kr Kx x r A c B d L) (hX : Below W.heap.size W X) (cs : Array Value) :
    Below w.heap.size w (X.setRow K1 cs) ∧ RdZ (X.setRow K1 cs) (fun g => w.heap.size ≤ g) A x.args ∧ RdT (X.setRow K1 cs) (fun g => w.heap.size ≤ g) B 2 (EdgeAt (fun g => w.heap.size ≤ g)) x.edges := by
  have T := S.below hX
  have hg := setRow_grown X K1 cs
  have l1 := T.l1
  have l2 := T.l2
  have lo := T.lo
  refine ⟨below_grown T.bel hg T.bel.size T.lo, (T.ar.stay hg (by omega)).rdz (by have := T.lo; omega), ?_⟩
  have own := own_stay T.own hg (by omega)
  have rows : ∀ p ∈ L, Row (X.setRow K1 cs) Kx p.2.1 p.1.args := fun p hp => (T.rows p hp).stay hg (by omega)
  intro hl
  have hL : L ≠ [] := fun e => hl (by rw [← T.ed, e]; rfl)
  obtain ⟨g, o, e, hb, hc⟩ := own_rds encE_len (by omega) own hL
  refine ⟨g, o, e, (by subst e; have := (own.lt g rfl).1; omega), hb, fun i hi => ?_⟩
  have hi2 : i < L.length := by rw [← T.ed] at hi; simpa using hi
  have he : x.edges[i] = L[i].1 := by simp [← T.ed]
  have c0 := hc i hi2 0 _ rfl
  have c1 := hc i hi2 1 _ rfl
  rw [he]
  exact ⟨c0, _, _, c1, (rows _ (List.getElem_mem _)).rdz (by omega)⟩

set_option maxHeartbeats 16000000 in
set_option maxRecDepth 100000 in
/-- stext.readEnd. -/
theorem sreadEnd_any (s : St.W) (hs : s.length ≤ 1000000) (hf : (Lib.fieldsD s).length ≤ 10000) (w : World) (G : Glob w) :
    Calls Tryz.prog 69 #[.string ⟨s.toArray⟩] w fun e w' => EndOut w.heap.size (St.finP s) e w' ∧ Below w.heap.size w w' := by
  have hkl : St.endW.length = 5 := by decide +kernel
  have HF := Lib.hid (fun W (G : Glob W) => fields_any s hs W G)
  have HNew := Lib.hid (fun (W : World) (A : Option Addr) (h : RdS W W.heap.size A 1 encS (Lib.fieldsD s)) => RAt.new hs h)
  obtain ⟨R, hR⟩ : ∃ x, St.finP s = x := ⟨_, rfl⟩
  rw [hR]
  unfold St.finP at hR
  obtain ⟨L, hL⟩ : ∃ x, Lib.fieldsD s = x := ⟨_, rfl⟩
  rw [hL] at HF HNew hR hf
  clear hL
  have HTe := Lib.hid (fun N K W (h : RAt W N K L true) => rtake_any St.lEnd N K L true W h)
  have hto := St.takeO_ok St.lEnd ⟨L, true⟩
  have htl := St.takeO_len St.lEnd ⟨L, true⟩
  obtain ⟨⟨te, ⟨l1, ok1⟩⟩, ht⟩ : ∃ x, St.takeO St.lEnd ⟨L, true⟩ = x := ⟨_, rfl⟩
  rw [ht] at HTe hR hto htl
  dsimp only at HTe hR hto htl
  subst hto
  have HNx := Lib.hid (fun N K W (h : RAt W N K l1 true) => rnext_any N K l1 true W h)
  have HIx := Lib.hid (fun (u : St.W) W (G : Glob W) => sindex_any St.endT (by decide) St.endW rfl (by omega) u W G)
  obtain ⟨hd, hhd⟩ : ∃ x, l1.headD [] = x := ⟨_, rfl⟩
  obtain ⟨tl, htl'⟩ : ∃ x, l1.tail = x := ⟨_, rfl⟩
  rw [hhd, htl'] at HNx hR
  have htl2 : tl.length ≤ 10000 := by rw [← htl', List.length_tail]; omega
  clear hhd htl' hkl ht htl
  obtain ⟨k, hk⟩ : ∃ x, St.idx St.endW hd = x := ⟨_, rfl⟩
  rw [hk] at hR
  have HK := Lib.hid hk
  clear hk
  rw [show St.endT = [106, 117, 109, 112, 32, 105, 102, 32, 115, 119, 105, 116, 99, 104, 32, 114, 101, 116, 117, 114, 110, 32, 116, 114, 97, 112] from rfl] at HIx
  unfold St.lEnd at HTe
  have HR := Lib.hid hR
  have HG := Lib.hid G
  clear hR G
  have HB0 := Lib.hid ((Below.refl w.heap.size w).alloc (Nat.le_refl _) (.cells #[.int .i64 0, .int .i64 0, .slice none 0 0, .slice none 0 0, .int .i64 0] 42))
  go_enter Tryz.func69, Tryz.ntmps69
  go_upto_region 4 with (first
    | (go_at_call 66; refine (HF.out _ (HG.out.below HB0.out)).mono ?_; rintro e w1 ⟨⟨A0, rfl, hrd⟩, hb⟩; have v1 := (Var.new w #[.int .i64 0, .int .i64 0, .slice none 0 0, .slice none 0 0, .int .i64 0] 42).below hb (by simp); have b1 := HB0.out.trans (hb.mono (by simp)); have hk1 : w.heap.size + 1 ≤ w1.heap.size := (by have := hb.size; simp at this; omega); have r0 := HNew.out _ _ hrd; have b2 := b1.alloc b1.size (.cells #[.slice A0 L.length L.length, .bool true] 132); have v2 := v1.alloc (.cells #[.slice A0 L.length L.length, .bool true] 132); clear hrd hb v1 b1)
    | (go_at_call 94; refine (HTe.out _ _ _ r0).mono ?_; rintro e w2 ⟨rfl, r1, g1⟩; have b3 := below_grown b2 g1 b2.size (by omega); have v3 := var_stay v2 g1 (by omega); clear r0 b2 v2 g1)
    | (go_at_call 97; refine (HNx.out _ _ _ r1).mono ?_; rintro e w3 ⟨rfl, r2, g1⟩; have b4 := below_grown b3 g1 b3.size (by omega); have v4 := var_stay v3 g1 (by omega); clear r1 b3 v3 g1)
    | (go_at_call 96; refine (HIx.out _ _ (HG.out.below b4)).mono ?_; rintro e w4 ⟨rfl, hb⟩; rw [HK.out]; have r3 := r2.below hb; have b5 := b4.trans (hb.mono b4.size); have v5 := var_keep v4 hb; clear r2 b4 v4 hb))
  have hk4 : w1.heap.size < w4.heap.size := r3.lt
  obtain ⟨N, hN⟩ : ∃ N, w1.heap.size = N := ⟨_, rfl⟩
  rw [hN] at r3 hk1 hk4
  simp only [hN]
  refine at_code (F := fun W => EndSt w W w.heap.size N w4.heap.size ⟨k, 0, [], [], 0⟩ ⟨tl, true⟩) ⟨none, 0, none, 0, [], b5.alloc b5.size _, v5.alloc _, r3.below ((Below.refl _ _).alloc (Nat.le_refl _) _), Var.new _ _ _, Row.nil_, rfl, World.ownsRow_nil _ _ _ _, by simp, Nat.le_refl _, by omega, hk4⟩ ?_
  clear v5 b5 r3 HF HNew HNx HIx HK HB0 hN hk1 HTe
  obtain ⟨Kx, hKx⟩ : ∃ Kx, w4.heap.size = Kx := ⟨_, rfl⟩
  simp only [hKx]
  clear hKx hk4
  have hok := St.finF_ok k ⟨tl, true⟩ htl2
  unfold St.finF at HR hok
  dsimp only at HR hok
  have hin := HR.out
  clear HR
  obtain ⟨rok0, hrok⟩ : ∃ b, b = true := ⟨_, rfl⟩
  rw [← hrok] at hin hok ⊢
  obtain ⟨rl0, hrl⟩ : ∃ x, tl = x := ⟨_, rfl⟩
  rw [hrl] at hin hok htl2 ⊢
  clear hrok hrl
  intro W S
  have hl1 := (St.optNum_in St.lOn ⟨rl0, rok0⟩).2
  obtain ⟨⟨v1, ⟨rl1, rok1⟩⟩, ho⟩ : ∃ x, St.optNum St.lOn ⟨rl0, rok0⟩ = x := ⟨_, rfl⟩
  rw [ho] at hin hok
  have HO' := Lib.hid ho
  unfold St.optNum at ho
  have hto := St.takeO_ok St.lOn ⟨rl0, rok0⟩
  have HTk := Lib.hid (fun W (h : RAt W N N rl0 rok0) => rtake_any St.lOn N N rl0 rok0 W h)
  have hf := St.takeO_false (w := St.lOn) (r := ⟨rl0, rok0⟩)
  obtain ⟨⟨tb, ⟨tl, tok⟩⟩, ht⟩ : ∃ x, St.takeO St.lOn ⟨rl0, rok0⟩ = x := ⟨_, rfl⟩
  rw [ht] at ho hto HTk hf
  dsimp only at ho hto HTk hf
  subst hto
  have HO := Lib.hid ho
  have HFalse := Lib.hid hf
  have HIN := Lib.hid hin
  have HOK := Lib.hid hok
  clear ho ht hf hin hok
  unfold St.lOn at HTk
  obtain ⟨A0, c0, B0, d0, L0, S0⟩ := S
  go_upto_if 19 with (go_at_call 94; refine (HTk.out _ S0.rd).mono ?_; rintro e W1 ⟨rfl, r5, g5⟩; have S1 := S0.step (r' := ⟨tl, tok⟩) r5 g5)
  clear S0 r5 g5 HTk
  go_cut [7] from 8 (fun s7 wx => EndSt w wx w.heap.size N Kx ⟨k, v1, [], [], 0⟩ ⟨rl1, rok1⟩)
  case first =>
    clear HIN HOK
    have hNK := S1.l2
    rcases tb with _ | _
    · go_wp2_with fail
      go_meet
      have h1 := HO.out
      have h2 := HFalse.out (by trivial)
      simp at h1 h2
      obtain ⟨rfl, rfl, rfl⟩ := h1
      obtain rfl := h2
      exact S1.st
    · have h1 := HO.out
      simp only [if_true, St.numO, St.numsO, Prod.mk.injEq, St.Rs.mk.injEq] at h1
      clear HO HFalse
      obtain ⟨e1, e2, e3⟩ := h1
      have HNum := Lib.hid (rdnum_any N N tl tok w W1 HG.out S1.bel (by have := S1.lo; have := S1.l1; omega) S1.rd)
      obtain ⟨⟨fo, fb⟩, hfo⟩ : ∃ x, pint (tl.headD []) = x := ⟨_, rfl⟩
      rw [hfo] at HNum e1 e3
      dsimp only at HNum e1 e3
      obtain ⟨tt, htt⟩ : ∃ x, tl.tail = x := ⟨_, rfl⟩
      rw [htt] at HNum e2
      subst e1 e2
      have HE3 := Lib.hid e3
      clear hfo htt e3 HO'
      go_wp2_with (go_at_call 98; refine HNum.out.mono ?_; rintro e W2 ⟨rfl, r6, g6⟩; have S2 := S1.step (r' := ⟨_, _⟩) r6 g6; have q1 := (S2.cells 1 (by omega)).1; obtain ⟨q0, q2⟩ := (S2.cells 1 (by omega)).2; have q3 := S2.ltx)
      go_meet
      rw [← HE3.out]; exact (S2.setCond _).st
  case rest =>
  clear S1 HO HFalse
  have hin := HIN.out
  have hok := HOK.out
  clear HIN HOK
  have S := hcut
  clear hcut
  rw [HO'.out] at hl1
  clear HO'
  have hl2 := (St.optNums_in St.lOf ⟨rl1, rok1⟩).2
  obtain ⟨⟨v2, ⟨rl2, rok2⟩⟩, ho⟩ : ∃ x, St.optNums St.lOf ⟨rl1, rok1⟩ = x := ⟨_, rfl⟩
  rw [ho] at hin hok
  have HO' := Lib.hid ho
  unfold St.optNums at ho
  have hto := St.takeO_ok St.lOf ⟨rl1, rok1⟩
  have HTk := Lib.hid (fun W (h : RAt W N N rl1 rok1) => rtake_any St.lOf N N rl1 rok1 W h)
  have hf := St.takeO_false (w := St.lOf) (r := ⟨rl1, rok1⟩)
  obtain ⟨⟨tb, ⟨tl, tok⟩⟩, ht⟩ : ∃ x, St.takeO St.lOf ⟨rl1, rok1⟩ = x := ⟨_, rfl⟩
  rw [ht] at ho hto HTk hf
  dsimp only at ho hto HTk hf
  subst hto
  have HO := Lib.hid ho
  have HFalse := Lib.hid hf
  have HIN := Lib.hid hin
  have HOK := Lib.hid hok
  clear ho ht hf hin hok
  unfold St.lOf at HTk
  obtain ⟨A0, c0, B0, d0, L0, S0⟩ := S
  go_upto_if 24 with (go_at_call 94; refine (HTk.out _ S0.rd).mono ?_; rintro e W1 ⟨rfl, r5, g5⟩; have S1 := S0.step (r' := ⟨tl, tok⟩) r5 g5)
  clear S0 r5 g5 HTk
  go_cut [7] from 8 (fun s7 wx => EndSt w wx w.heap.size N Kx ⟨k, v1, v2, [], 0⟩ ⟨rl2, rok2⟩)
  case first =>
    clear HIN HOK
    have hNK := S1.l2
    rcases tb with _ | _
    · go_wp2_with fail
      go_meet
      have h1 := HO.out
      have h2 := HFalse.out (by trivial)
      simp at h1 h2
      obtain ⟨rfl, rfl, rfl⟩ := h1
      obtain rfl := h2
      exact S1.st
    · have h1 := HO.out
      simp only [if_true, St.numO, St.numsO, Prod.mk.injEq, St.Rs.mk.injEq] at h1
      clear HO HFalse
      have HNum := Lib.hid (rdnums_any N N tl tok w W1 HG.out S1.bel (by have := S1.lo; have := S1.l1; omega) S1.rd)
      rw [h1] at HNum
      dsimp only at HNum
      have hlx := S1.ltx
      clear h1 HO'
      go_wp2_with (go_at_call 95; refine HNum.out.mono ?_; rintro e W2 ⟨A, c, rfl, own, r6, g6⟩; have S2 := S1.step (r' := ⟨_, _⟩) r6 g6; have q1 := (S2.cells 2 (by omega)).1; obtain ⟨q0, q2⟩ := (S2.cells 2 (by omega)).2; have q3 := S2.ltx; have rw2 := Row.own own hlx)
      go_meet
      exact (S2.setArgs rw2).st
  case rest =>
  clear S1 HO HFalse
  have hin := HIN.out
  have hok := HOK.out
  clear HIN HOK
  have S := hcut
  clear hcut
  rw [HO'.out] at hl2
  clear HO'
  dsimp only at hl1 hl2
  obtain ⟨E, hE⟩ : ∃ x, St.edgesO rl2.length ⟨rl2, rok2⟩ = x := ⟨_, rfl⟩
  rw [hE] at hin hok
  have HE := Lib.hid hE
  have HIN := Lib.hid hin
  have HOK := Lib.hid hok
  clear hE hin hok
  obtain ⟨i0, hi0, hz0, hz1, hz2⟩ := info_parts info_sedge
  go_wp2_with fail
  go_loopw [7] (fun s7 wr => ∃ (es : List St.Edge) (rl : List St.W) (rok : Bool) (f : Nat), Hid (EndSt w wr w.heap.size N Kx ⟨k, v1, v2, es, 0⟩ ⟨rl, rok⟩) ∧ rl.length ≤ f ∧ es.length + rl.length ≤ 10000 ∧ Hid (E = (es ++ (St.edgesO f ⟨rl, rok⟩).1, (St.edgesO f ⟨rl, rok⟩).2))) (fun s7 wr => lenOf ((wr.cell? ⟨N, 0, none⟩).getD undef))
  case atStart => exact ⟨[], rl2, rok2, rl2.length, Lib.hid S, Nat.le_refl _, by simp; omega, Lib.hid (by rw [HE.out]; rfl)⟩
  case round =>
    clear S HE
    obtain ⟨es, rl, rok, f, HS, hf1, hf2, HZ⟩ := hrel
    obtain ⟨A0, c0, B0, d0, L0, S0⟩ := HS.out
    have hto := St.takeO_ok St.lTo ⟨rl, rok⟩
    have HTk := Lib.hid (fun W (h : RAt W N N rl rok) => rtake_any St.lTo N N rl rok W h)
    have hff := St.takeO_false (w := St.lTo) (r := ⟨rl, rok⟩)
    have hft := St.takeO_true (w := St.lTo) (r := ⟨rl, rok⟩)
    have hZ := HZ.out
    have hE0 := St.edgesO_false (f := f) (r := ⟨rl, rok⟩)
    have hE1 := fun f' => St.edgesO_true (f := f') (r := ⟨rl, rok⟩)
    obtain ⟨⟨tb, ⟨tl, tok⟩⟩, ht⟩ : ∃ x, St.takeO St.lTo ⟨rl, rok⟩ = x := ⟨_, rfl⟩
    rw [ht] at hto HTk hff hft hE0
    simp only [ht] at hE1
    dsimp only at hto HTk hff hft hE0 hE1
    subst hto
    obtain ⟨cA, cc, cV, -⟩ := S0.rd.ex
    have cm := cV.cells 0
    unfold St.lTo at HTk
    have HFF := Lib.hid hff
    have HFT := Lib.hid hft
    have HE0 := Lib.hid hE0
    have HE1 := Lib.hid hE1
    have HCM : Hid (lenOf ((wr.cell? ⟨N, 0, none⟩).getD undef) = rl.length) := Lib.hid (by rw [cm]; rfl)
    clear ht hff hft hE0 hE1 cm cV HZ
    have HZ := Lib.hid hZ
    clear hZ
    go_upto_if 29 with (go_at_call 94; refine (HTk.out _ S0.rd).mono ?_; rintro e W1 ⟨rfl, r5, g5⟩; have S1 := S0.step (r' := ⟨tl, tok⟩) r5 g5)
    clear S0 r5 g5 HTk HS
    rcases tb with _ | _
    · have h2 := HFF.out rfl
      injection h2 with h2 _
      subst h2
      obtain rfl : E = (es, ⟨tl, tok⟩) := by rw [HZ.out, HE0.out rfl]; simp
      have hin := HIN.out
      have hok := HOK.out
      clear HIN HOK HE0 HE1 HFF HFT HZ HCM
      dsimp only at hin hok
      obtain ⟨rl3, h3⟩ : ∃ x, tl = x := ⟨_, rfl⟩
      obtain ⟨rok3, h4⟩ : ∃ x, tok = x := ⟨_, rfl⟩
      rw [h3, h4] at S1 hin hok
      rw [h3] at hf1 hf2
      clear h3 h4
      have S := S1.st
      clear S1
      obtain ⟨⟨v4, ⟨rl4, rok4⟩⟩, ho⟩ : ∃ x, St.optNum St.lTrap ⟨rl3, rok3⟩ = x := ⟨_, rfl⟩
      rw [ho] at hin hok
      have HO' := Lib.hid ho
      unfold St.optNum at ho
      have hto := St.takeO_ok St.lTrap ⟨rl3, rok3⟩
      have HTk := Lib.hid (fun W (h : RAt W N N rl3 rok3) => rtake_any St.lTrap N N rl3 rok3 W h)
      have hf := St.takeO_false (w := St.lTrap) (r := ⟨rl3, rok3⟩)
      obtain ⟨⟨tb, ⟨tl, tok⟩⟩, ht⟩ : ∃ x, St.takeO St.lTrap ⟨rl3, rok3⟩ = x := ⟨_, rfl⟩
      rw [ht] at ho hto HTk hf
      dsimp only at ho hto HTk hf
      subst hto
      have HO := Lib.hid ho
      have HFalse := Lib.hid hf
      have HIN := Lib.hid hin
      have HOK := Lib.hid hok
      clear ho ht hf hin hok
      unfold St.lTrap at HTk
      obtain ⟨A0, c0, B0, d0, L0, S0⟩ := S
      go_upto_if 42 with (go_at_call 94; refine (HTk.out _ S0.rd).mono ?_; rintro e W1 ⟨rfl, r5, g5⟩; have S1 := S0.step (r' := ⟨tl, tok⟩) r5 g5)
      clear S0 r5 g5 HTk
      go_cut [7] from 8 (fun s7 wx => EndSt w wx w.heap.size N Kx ⟨k, v1, v2, es, v4⟩ ⟨rl4, rok4⟩)
      case first =>
        clear HIN HOK
        have hNK := S1.l2
        rcases tb with _ | _
        · go_wp2_with fail
          go_meet
          have h1 := HO.out
          have h2 := HFalse.out (by trivial)
          simp at h1 h2
          obtain ⟨rfl, rfl, rfl⟩ := h1
          obtain rfl := h2
          exact S1.st
        · have h1 := HO.out
          simp only [if_true, St.numO, St.numsO, Prod.mk.injEq, St.Rs.mk.injEq] at h1
          clear HO HFalse
          obtain ⟨e1, e2, e3⟩ := h1
          have HNum := Lib.hid (rdnum_any N N tl tok w W1 HG.out S1.bel (by have := S1.lo; have := S1.l1; omega) S1.rd)
          obtain ⟨⟨fo, fb⟩, hfo⟩ : ∃ x, pint (tl.headD []) = x := ⟨_, rfl⟩
          rw [hfo] at HNum e1 e3
          dsimp only at HNum e1 e3
          obtain ⟨tt, htt⟩ : ∃ x, tl.tail = x := ⟨_, rfl⟩
          rw [htt] at HNum e2
          subst e1 e2
          have HE3 := Lib.hid e3
          clear hfo htt e3 HO'
          go_wp2_with (go_at_call 98; refine HNum.out.mono ?_; rintro e W2 ⟨rfl, r6, g6⟩; have S2 := S1.step (r' := ⟨_, _⟩) r6 g6; have q1 := (S2.cells 4 (by omega)).1; obtain ⟨q0, q2⟩ := (S2.cells 4 (by omega)).2; have q3 := S2.ltx)
          go_meet
          rw [← HE3.out]; exact (S2.setTrap _).st
      case rest =>
      clear S1 HO HFalse
      have hin := HIN.out
      have hok := HOK.out
      clear HIN HOK
      have S := hcut
      clear hcut
      clear HO'
      go_upto_region 13 with fail
      refine at_code (F := fun W => EndSt w W w.heap.size N Kx ⟨k, v1, v2, es, v4⟩ ⟨rl4, rok4⟩) S ?_
      clear S
      intro W S
      obtain ⟨A, c, B, d, L0, SX'⟩ := S
      obtain ⟨⟨A1, c1, hvr, -, -⟩, -, -⟩ := SX'.rd
      have hv' : Var W Kx #[.int .i64 k, .int .i64 v1, .slice A v2.length c, .slice B L0.length d, .int .i64 v4] 42 := SX'.cur
      obtain ⟨c0_, c1_, c2_, c3_, c4_⟩ := cells5 hv'
      obtain ⟨c5_, c6_⟩ := cells2 hvr
      have VR := SX'.res
      have hKx := SX'.ltx
      have hKr := hvr.lt
      have hKz := VR.lt
      have l12 := SX'.l1
      have l23 := SX'.l2
      have HLe : Hid (L0.length = es.length) := Lib.hid (by have := congrArg List.length SX'.ed; simpa using this)
      have SXD := SX'.below (below_drewN W 1)
      have HFin := Lib.hid (sfin_any ⟨k, v1, v2, es, v4⟩ hok (fun _ => True) A c B d (World.drew W) SXD.ar.1 SXD.edges (HG.out.below SXD.bel))
      unfold finV at HFin
      dsimp only at HFin
      rw [← HLe.out] at HFin
      have SX := Lib.hid SX'
      have HR := Lib.hid hin.symm
      clear hv' hvr SX' SXD hok hin
      dsimp only at c5_ c6_
      rcases te with _ | _
      · skip
        have SS : (fun W' => W'.cell? ⟨Kx, 0, none⟩ = some (.int .i64 k) ∧ W'.cell? ⟨Kx, 1, none⟩ = some (.int .i64 v1) ∧ W'.cell? ⟨Kx, 2, none⟩ = some (.slice A v2.length c) ∧ W'.cell? ⟨Kx, 3, none⟩ = some (.slice B L0.length d) ∧ W'.cell? ⟨Kx, 4, none⟩ = some (.int .i64 v4) ∧ W'.cell? ⟨N, 0, none⟩ = some (.slice A1 rl4.length c1) ∧ W'.cell? ⟨N, 1, none⟩ = some (.bool rok4)) (World.drew W) := ⟨c0_, c1_, c2_, c3_, c4_, c5_, c6_⟩
        dsimp only at SS
        have SSc := SS
        obtain ⟨t0, t1, t2, t3, t4, t5, t6⟩ := SSc
        have VD : (World.drew W).heap[w.heap.size]? = some (.cells #[.int .i64 0, .int .i64 0, .slice none 0 0, .slice none 0 0, .int .i64 0] 42 (0, 0)) := VR
        refine wp_region_held_drew (S := (fun W' => W'.cell? ⟨Kx, 0, none⟩ = some (.int .i64 k) ∧ W'.cell? ⟨Kx, 1, none⟩ = some (.int .i64 v1) ∧ W'.cell? ⟨Kx, 2, none⟩ = some (.slice A v2.length c) ∧ W'.cell? ⟨Kx, 3, none⟩ = some (.slice B L0.length d) ∧ W'.cell? ⟨Kx, 4, none⟩ = some (.int .i64 v4) ∧ W'.cell? ⟨N, 0, none⟩ = some (.slice A1 rl4.length c1) ∧ W'.cell? ⟨N, 1, none⟩ = some (.bool rok4))) (by kernel_rfl) ?_ (fun hHeld0 => ?_)
        · first | assumption | go_keep
        refine tk (i := 0) (oi := ⟨some 46, .load 42 (.tmp 6), 42, "stext.go:265", #[], none⟩) rfl ?_; (try simp only [Act.put, List.setIfInBounds_toArray, List.set_cons_succ, List.set_cons_zero])
        refine tk (i := 1) (oi := ⟨some 47, .move (.tmp 5), 4, "stext.go:265", #[], none⟩) rfl ?_; (try simp only [Act.put, List.setIfInBounds_toArray, List.set_cons_succ, List.set_cons_zero])
        refine tk (i := 2) (oi := ⟨some 48, .move (.tmp 47), 4, "stext.go:265", #[⟨1, .data⟩], none⟩) rfl ?_; (try simp only [Act.put, List.setIfInBounds_toArray, List.set_cons_succ, List.set_cons_zero])
        refine tkN (i := 3) (oi := ⟨some 49, .move (.tmp 4), 130, "stext.go:265", #[⟨2, .guard⟩], some (2, true)⟩) rfl ?_; (try simp only [Act.put, List.setIfInBounds_toArray, List.set_cons_succ, List.set_cons_zero])
        refine tkN (i := 4) (oi := ⟨some 50, .nilCheck (.tmp 49), 0, "stext.go:265", #[⟨3, .data⟩, ⟨2, .guard⟩], some (2, true)⟩) rfl ?_; (try simp only [Act.put, List.setIfInBounds_toArray, List.set_cons_succ, List.set_cons_zero])
        refine tkN (i := 5) (oi := ⟨some 51, .fieldAddr 132 (.tmp 50) 1, 0, "stext.go:265", #[⟨4, .data⟩, ⟨2, .guard⟩], some (2, true)⟩) rfl ?_; (try simp only [Act.put, List.setIfInBounds_toArray, List.set_cons_succ, List.set_cons_zero])
        refine tkN (i := 6) (oi := ⟨some 52, .load 4 (.tmp 51), 4, "stext.go:265", #[⟨5, .data⟩, ⟨2, .guard⟩], some (2, true)⟩) rfl ?_; (try simp only [Act.put, List.setIfInBounds_toArray, List.set_cons_succ, List.set_cons_zero])
        refine tk (i := 7) (oi := ⟨some 53, .pick (.tmp 48) (.tmp 52) (.const (.bool false)), 4, "stext.go:265", #[⟨2, .data⟩, ⟨6, .data⟩], none⟩) rfl ?_; (try simp only [Act.put, List.setIfInBounds_toArray, List.set_cons_succ, List.set_cons_zero])
        refine tk (i := 8) (oi := ⟨some 54, .move (.tmp 53), 4, "stext.go:265", #[⟨7, .data⟩, ⟨2, .chain⟩], none⟩) rfl ?_; (try simp only [Act.put, List.setIfInBounds_toArray, List.set_cons_succ, List.set_cons_zero])
        refine tkN (i := 9) (oi := ⟨some 55, .fieldAddr 42 (.tmp 6) 0, 0, "stext.go:265", #[⟨8, .guard⟩], some (8, true)⟩) rfl ?_; (try simp only [Act.put, List.setIfInBounds_toArray, List.set_cons_succ, List.set_cons_zero])
        refine tkN (i := 10) (oi := ⟨some 56, .load 3 (.tmp 55), 3, "stext.go:265", #[⟨9, .data⟩, ⟨8, .guard⟩], some (8, true)⟩) rfl ?_; (try simp only [Act.put, List.setIfInBounds_toArray, List.set_cons_succ, List.set_cons_zero])
        refine tkN (i := 11) (oi := ⟨some 57, .binOp .geq 3 (.tmp 56) (.const (.int .i64 0)) 3, 4, "stext.go:265", #[⟨10, .data⟩, ⟨8, .guard⟩], some (8, true)⟩) rfl ?_; (try simp only [Act.put, List.setIfInBounds_toArray, List.set_cons_succ, List.set_cons_zero])
        refine tk (i := 12) (oi := ⟨some 58, .pick (.tmp 54) (.tmp 57) (.const (.bool false)), 4, "stext.go:265", #[⟨8, .data⟩, ⟨11, .data⟩], none⟩) rfl ?_; (try simp only [Act.put, List.setIfInBounds_toArray, List.set_cons_succ, List.set_cons_zero])
        refine tk (i := 13) (oi := ⟨some 59, .move (.tmp 58), 4, "stext.go:265", #[⟨12, .data⟩, ⟨8, .chain⟩], none⟩) rfl ?_; (try simp only [Act.put, List.setIfInBounds_toArray, List.set_cons_succ, List.set_cons_zero])
        refine tkN (i := 14) (oi := ⟨some 60, .move (.tmp 4), 130, "stext.go:265", #[⟨13, .guard⟩], some (13, true)⟩) rfl ?_; (try simp only [Act.put, List.setIfInBounds_toArray, List.set_cons_succ, List.set_cons_zero])
        refine tkN (i := 15) (oi := ⟨some 61, .nilCheck (.tmp 60), 0, "stext.go:265", #[⟨14, .data⟩, ⟨13, .guard⟩], some (13, true)⟩) rfl ?_; (try simp only [Act.put, List.setIfInBounds_toArray, List.set_cons_succ, List.set_cons_zero])
        refine tkN (i := 16) (oi := ⟨some 62, .fieldAddr 132 (.tmp 61) 0, 0, "stext.go:265", #[⟨15, .data⟩, ⟨13, .guard⟩], some (13, true)⟩) rfl ?_; (try simp only [Act.put, List.setIfInBounds_toArray, List.set_cons_succ, List.set_cons_zero])
        refine tkN (i := 17) (oi := ⟨some 63, .load 54 (.tmp 62), 54, "stext.go:265", #[⟨16, .data⟩, ⟨13, .guard⟩], some (13, true)⟩) rfl ?_; (try simp only [Act.put, List.setIfInBounds_toArray, List.set_cons_succ, List.set_cons_zero])
        refine tkN (i := 18) (oi := ⟨some 64, .call { callee := .builtin .len, args := #[.tmp 63], argTypes := #[54] }, 3, "stext.go:265", #[⟨17, .data⟩, ⟨13, .guard⟩], some (13, true)⟩) rfl ?_; (try simp only [Act.put, List.setIfInBounds_toArray, List.set_cons_succ, List.set_cons_zero])
        refine tkN (i := 19) (oi := ⟨some 65, .binOp .eql 3 (.tmp 64) (.const (.int .i64 0)) 3, 4, "stext.go:265", #[⟨18, .data⟩, ⟨13, .guard⟩], some (13, true)⟩) rfl ?_; (try simp only [Act.put, List.setIfInBounds_toArray, List.set_cons_succ, List.set_cons_zero])
        refine tk (i := 20) (oi := ⟨some 66, .pick (.tmp 59) (.tmp 65) (.const (.bool false)), 4, "stext.go:265", #[⟨13, .data⟩, ⟨19, .data⟩], none⟩) rfl ?_; (try simp only [Act.put, List.setIfInBounds_toArray, List.set_cons_succ, List.set_cons_zero])
        refine tk (i := 21) (oi := ⟨some 67, .move (.tmp 66), 4, "stext.go:265", #[⟨20, .data⟩, ⟨13, .chain⟩], none⟩) rfl ?_; (try simp only [Act.put, List.setIfInBounds_toArray, List.set_cons_succ, List.set_cons_zero])
        refine tkN (i := 22) (oi := ⟨some 68, .load 42 (.tmp 6), 42, "stext.go:265", #[⟨21, .guard⟩], some (21, true)⟩) rfl ?_; (try simp only [Act.put, List.setIfInBounds_toArray, List.set_cons_succ, List.set_cons_zero])
        refine tkN (i := 23) (oi := ⟨some 69, .call { callee := .value (.func 21), args := #[.tmp 68], argTypes := #[42] }, 9, "stext.go:265", #[⟨22, .data⟩, ⟨21, .chain⟩, ⟨21, .guard⟩], some (21, true)⟩) rfl ?_; (try simp only [Act.put, List.setIfInBounds_toArray, List.set_cons_succ, List.set_cons_zero])
        refine tkN (i := 24) (oi := ⟨some 70, .move (.tmp 0), 9, "stext.go:265", #[⟨21, .guard⟩, { on := 27, ground := .gcOnly Go.Departure.lateStores }], some (21, true)⟩) rfl ?_; (try simp only [Act.put, List.setIfInBounds_toArray, List.set_cons_succ, List.set_cons_zero])
        refine tkN (i := 25) (oi := ⟨some 71, .binOp .eql 9 (.tmp 69) (.tmp 70) 9, 4, "stext.go:265", #[⟨23, .data⟩, ⟨24, .data⟩, ⟨21, .guard⟩, { on := 27, ground := .gcOnly Go.Departure.lateStores }], some (21, true)⟩) rfl ?_; (try simp only [Act.put, List.setIfInBounds_toArray, List.set_cons_succ, List.set_cons_zero])
        refine tk (i := 26) (oi := ⟨some 72, .pick (.tmp 67) (.tmp 71) (.const (.bool false)), 4, "stext.go:265", #[⟨21, .data⟩, ⟨25, .data⟩, { on := 27, ground := .gcOnly Go.Departure.lateStores }], none⟩) rfl ?_; (try simp only [Act.put, List.setIfInBounds_toArray, List.set_cons_succ, List.set_cons_zero])
        refine wpAnyH_ready (rs := [27]) (by kernel_rfl) (by simp) ?_
        refine AllReadyH.cons (o := ⟨none, .store 42 (.tmp 2) (.tmp 46), 0, "stext.go:265", #[⟨0, .data⟩, ⟨23, .chain⟩, ⟨0, .phase⟩, { on := 1, ground := .textOnly Go.Departure.lateStores }, { on := 2, ground := .textOnly Go.Departure.lateStores }, { on := 3, ground := .textOnly Go.Departure.lateStores }, { on := 4, ground := .textOnly Go.Departure.lateStores }, { on := 5, ground := .textOnly Go.Departure.lateStores }, { on := 6, ground := .textOnly Go.Departure.lateStores }, { on := 7, ground := .textOnly Go.Departure.lateStores }, { on := 8, ground := .textOnly Go.Departure.lateStores }, { on := 9, ground := .textOnly Go.Departure.lateStores }, { on := 10, ground := .textOnly Go.Departure.lateStores }, { on := 11, ground := .textOnly Go.Departure.lateStores }, { on := 12, ground := .textOnly Go.Departure.lateStores }, { on := 13, ground := .textOnly Go.Departure.lateStores }, { on := 14, ground := .textOnly Go.Departure.lateStores }, { on := 15, ground := .textOnly Go.Departure.lateStores }, { on := 16, ground := .textOnly Go.Departure.lateStores }, { on := 17, ground := .textOnly Go.Departure.lateStores }, { on := 18, ground := .textOnly Go.Departure.lateStoresUnsure }, { on := 19, ground := .textOnly Go.Departure.lateStores }, { on := 20, ground := .textOnly Go.Departure.lateStores }, { on := 21, ground := .textOnly Go.Departure.lateStores }, { on := 22, ground := .textOnly Go.Departure.lateStores }, { on := 23, ground := .textOnly Go.Departure.lateStoresUnsure }, { on := 24, ground := .textOnly Go.Departure.lateStores }, { on := 25, ground := .textOnly Go.Departure.lateStores }, { on := 26, ground := .textOnly Go.Departure.lateStores }], none⟩) rfl (fun K hK => ?_) AllReadyH.nil
        (rw [if_pos (by rfl)]; refine wp_store_row 42 (.tmp 2) (.tmp 46) rfl w.heap.size #[.int .i64 k, .int .i64 v1, .slice A v2.length c, .slice B L0.length d, .int .i64 v4] rfl rfl 42 #[.int .i64 0, .int .i64 0, .slice none 0 0, .slice none 0 0, .int .i64 0] VD info_send rfl (by simp [Value.oneCell']) ?_; have gS := setRow_grown (World.drew W) w.heap.size #[.int .i64 k, .int .i64 v1, .slice A v2.length c, .slice B L0.length d, .int .i64 v4]; have SS2 : (fun W' => W'.cell? ⟨Kx, 0, none⟩ = some (.int .i64 k) ∧ W'.cell? ⟨Kx, 1, none⟩ = some (.int .i64 v1) ∧ W'.cell? ⟨Kx, 2, none⟩ = some (.slice A v2.length c) ∧ W'.cell? ⟨Kx, 3, none⟩ = some (.slice B L0.length d) ∧ W'.cell? ⟨Kx, 4, none⟩ = some (.int .i64 v4) ∧ W'.cell? ⟨N, 0, none⟩ = some (.slice A1 rl4.length c1) ∧ W'.cell? ⟨N, 1, none⟩ = some (.bool rok4)) ((World.drew W).setRow w.heap.size #[.int .i64 k, .int .i64 v1, .slice A v2.length c, .slice B L0.length d, .int .i64 v4]) := ⟨gS.cell t0 (by simp; omega), gS.cell t1 (by simp; omega), gS.cell t2 (by simp; omega), gS.cell t3 (by simp; omega), gS.cell t4 (by simp; omega), gS.cell t5 (by simp; omega), gS.cell t6 (by simp; omega)⟩; dsimp only at SS2)
        (try dsimp only)
        refine hK.out _ _ ?_ (fun hHeld1 => ?_)
        · first | trivial | ((try dsimp only); first | assumption | trivial | go_keep)
        clear hK K hHeld0
        (try simp only [Act.put, List.setIfInBounds_toArray, List.set_cons_succ, List.set_cons_zero])
        refine tk (i := 28) (oi := ⟨some 3, .assign (.tmp 72), 4, "stext.go:265", #[⟨26, .data⟩, ⟨27, .chain⟩, ⟨0, .phase⟩, ⟨1, .phase⟩, ⟨2, .phase⟩, ⟨3, .phase⟩, ⟨4, .phase⟩, ⟨5, .phase⟩, ⟨6, .phase⟩, ⟨7, .phase⟩, ⟨8, .phase⟩, ⟨9, .phase⟩, ⟨10, .phase⟩, ⟨11, .phase⟩, ⟨12, .phase⟩, ⟨13, .phase⟩, ⟨14, .phase⟩, ⟨15, .phase⟩, ⟨16, .phase⟩, ⟨17, .phase⟩, ⟨18, .phase⟩, ⟨19, .phase⟩, ⟨20, .phase⟩, ⟨21, .phase⟩, ⟨22, .phase⟩, ⟨23, .phase⟩, ⟨24, .phase⟩, ⟨25, .phase⟩, ⟨26, .phase⟩, ⟨27, .phase⟩], none⟩) rfl ?_; (try simp only [Act.put, List.setIfInBounds_toArray, List.set_cons_succ, List.set_cons_zero])
        refine wpAnyH_done (by kernel_rfl) ?_ _
        (try dsimp only)
        repeat (first | go_values | go_skip | go_guarded | go_step | go_upon)
        have fin := endFin SX.out (below_drewN W 1) #[.int .i64 k, .int .i64 v1, .slice A v2.length c, .slice B L0.length d, .int .i64 v4]
        refine bodyPost_ret (results_cell_row_tmp rfl _ _ w.heap.size _ #[.int .i64 k, .int .i64 v1, .slice A v2.length c, .slice B L0.length d, .int .i64 v4] (0, 0) _ rfl (setRow_heap (World.drew W) w.heap.size #[.int .i64 0, .int .i64 0, .slice none 0 0, .slice none 0 0, .int .i64 0] _ _ (0, 0) VD) Tryz.underlying42 rfl (by kernel_rfl)) rfl ?_
        rw [HLe.out] at fin ⊢
        obtain rfl := HR.out
        exact ⟨⟨A, c, B, d, rfl, fin.2.1, fin.2.2⟩, fin.1⟩
      rcases rok4 with _ | _
      · skip
        have SS : (fun W' => W'.cell? ⟨Kx, 0, none⟩ = some (.int .i64 k) ∧ W'.cell? ⟨Kx, 1, none⟩ = some (.int .i64 v1) ∧ W'.cell? ⟨Kx, 2, none⟩ = some (.slice A v2.length c) ∧ W'.cell? ⟨Kx, 3, none⟩ = some (.slice B L0.length d) ∧ W'.cell? ⟨Kx, 4, none⟩ = some (.int .i64 v4) ∧ W'.cell? ⟨N, 0, none⟩ = some (.slice A1 rl4.length c1) ∧ W'.cell? ⟨N, 1, none⟩ = some (.bool false)) (World.drew W) := ⟨c0_, c1_, c2_, c3_, c4_, c5_, c6_⟩
        dsimp only at SS
        have SSc := SS
        obtain ⟨t0, t1, t2, t3, t4, t5, t6⟩ := SSc
        have VD : (World.drew W).heap[w.heap.size]? = some (.cells #[.int .i64 0, .int .i64 0, .slice none 0 0, .slice none 0 0, .int .i64 0] 42 (0, 0)) := VR
        refine wp_region_held_drew (S := (fun W' => W'.cell? ⟨Kx, 0, none⟩ = some (.int .i64 k) ∧ W'.cell? ⟨Kx, 1, none⟩ = some (.int .i64 v1) ∧ W'.cell? ⟨Kx, 2, none⟩ = some (.slice A v2.length c) ∧ W'.cell? ⟨Kx, 3, none⟩ = some (.slice B L0.length d) ∧ W'.cell? ⟨Kx, 4, none⟩ = some (.int .i64 v4) ∧ W'.cell? ⟨N, 0, none⟩ = some (.slice A1 rl4.length c1) ∧ W'.cell? ⟨N, 1, none⟩ = some (.bool false))) (by kernel_rfl) ?_ (fun hHeld0 => ?_)
        · first | assumption | go_keep
        refine tk (i := 0) (oi := ⟨some 46, .load 42 (.tmp 6), 42, "stext.go:265", #[], none⟩) rfl ?_; (try simp only [Act.put, List.setIfInBounds_toArray, List.set_cons_succ, List.set_cons_zero])
        refine tk (i := 1) (oi := ⟨some 47, .move (.tmp 5), 4, "stext.go:265", #[], none⟩) rfl ?_; (try simp only [Act.put, List.setIfInBounds_toArray, List.set_cons_succ, List.set_cons_zero])
        refine tk (i := 2) (oi := ⟨some 48, .move (.tmp 47), 4, "stext.go:265", #[⟨1, .data⟩], none⟩) rfl ?_; (try simp only [Act.put, List.setIfInBounds_toArray, List.set_cons_succ, List.set_cons_zero])
        refine tk (i := 3) (oi := ⟨some 49, .move (.tmp 4), 130, "stext.go:265", #[⟨2, .guard⟩], some (2, true)⟩) rfl ?_; (try simp only [Act.put, List.setIfInBounds_toArray, List.set_cons_succ, List.set_cons_zero])
        refine tk (i := 4) (oi := ⟨some 50, .nilCheck (.tmp 49), 0, "stext.go:265", #[⟨3, .data⟩, ⟨2, .guard⟩], some (2, true)⟩) rfl ?_; (try simp only [Act.put, List.setIfInBounds_toArray, List.set_cons_succ, List.set_cons_zero])
        refine tk (i := 5) (oi := ⟨some 51, .fieldAddr 132 (.tmp 50) 1, 0, "stext.go:265", #[⟨4, .data⟩, ⟨2, .guard⟩], some (2, true)⟩) rfl ?_; (try simp only [Act.put, List.setIfInBounds_toArray, List.set_cons_succ, List.set_cons_zero])
        refine tk (i := 6) (oi := ⟨some 52, .load 4 (.tmp 51), 4, "stext.go:265", #[⟨5, .data⟩, ⟨2, .guard⟩], some (2, true)⟩) rfl ?_; (try simp only [Act.put, List.setIfInBounds_toArray, List.set_cons_succ, List.set_cons_zero])
        refine tk (i := 7) (oi := ⟨some 53, .pick (.tmp 48) (.tmp 52) (.const (.bool false)), 4, "stext.go:265", #[⟨2, .data⟩, ⟨6, .data⟩], none⟩) rfl ?_; (try simp only [Act.put, List.setIfInBounds_toArray, List.set_cons_succ, List.set_cons_zero])
        refine tk (i := 8) (oi := ⟨some 54, .move (.tmp 53), 4, "stext.go:265", #[⟨7, .data⟩, ⟨2, .chain⟩], none⟩) rfl ?_; (try simp only [Act.put, List.setIfInBounds_toArray, List.set_cons_succ, List.set_cons_zero])
        refine tkN (i := 9) (oi := ⟨some 55, .fieldAddr 42 (.tmp 6) 0, 0, "stext.go:265", #[⟨8, .guard⟩], some (8, true)⟩) rfl ?_; (try simp only [Act.put, List.setIfInBounds_toArray, List.set_cons_succ, List.set_cons_zero])
        refine tkN (i := 10) (oi := ⟨some 56, .load 3 (.tmp 55), 3, "stext.go:265", #[⟨9, .data⟩, ⟨8, .guard⟩], some (8, true)⟩) rfl ?_; (try simp only [Act.put, List.setIfInBounds_toArray, List.set_cons_succ, List.set_cons_zero])
        refine tkN (i := 11) (oi := ⟨some 57, .binOp .geq 3 (.tmp 56) (.const (.int .i64 0)) 3, 4, "stext.go:265", #[⟨10, .data⟩, ⟨8, .guard⟩], some (8, true)⟩) rfl ?_; (try simp only [Act.put, List.setIfInBounds_toArray, List.set_cons_succ, List.set_cons_zero])
        refine tk (i := 12) (oi := ⟨some 58, .pick (.tmp 54) (.tmp 57) (.const (.bool false)), 4, "stext.go:265", #[⟨8, .data⟩, ⟨11, .data⟩], none⟩) rfl ?_; (try simp only [Act.put, List.setIfInBounds_toArray, List.set_cons_succ, List.set_cons_zero])
        refine tk (i := 13) (oi := ⟨some 59, .move (.tmp 58), 4, "stext.go:265", #[⟨12, .data⟩, ⟨8, .chain⟩], none⟩) rfl ?_; (try simp only [Act.put, List.setIfInBounds_toArray, List.set_cons_succ, List.set_cons_zero])
        refine tkN (i := 14) (oi := ⟨some 60, .move (.tmp 4), 130, "stext.go:265", #[⟨13, .guard⟩], some (13, true)⟩) rfl ?_; (try simp only [Act.put, List.setIfInBounds_toArray, List.set_cons_succ, List.set_cons_zero])
        refine tkN (i := 15) (oi := ⟨some 61, .nilCheck (.tmp 60), 0, "stext.go:265", #[⟨14, .data⟩, ⟨13, .guard⟩], some (13, true)⟩) rfl ?_; (try simp only [Act.put, List.setIfInBounds_toArray, List.set_cons_succ, List.set_cons_zero])
        refine tkN (i := 16) (oi := ⟨some 62, .fieldAddr 132 (.tmp 61) 0, 0, "stext.go:265", #[⟨15, .data⟩, ⟨13, .guard⟩], some (13, true)⟩) rfl ?_; (try simp only [Act.put, List.setIfInBounds_toArray, List.set_cons_succ, List.set_cons_zero])
        refine tkN (i := 17) (oi := ⟨some 63, .load 54 (.tmp 62), 54, "stext.go:265", #[⟨16, .data⟩, ⟨13, .guard⟩], some (13, true)⟩) rfl ?_; (try simp only [Act.put, List.setIfInBounds_toArray, List.set_cons_succ, List.set_cons_zero])
        refine tkN (i := 18) (oi := ⟨some 64, .call { callee := .builtin .len, args := #[.tmp 63], argTypes := #[54] }, 3, "stext.go:265", #[⟨17, .data⟩, ⟨13, .guard⟩], some (13, true)⟩) rfl ?_; (try simp only [Act.put, List.setIfInBounds_toArray, List.set_cons_succ, List.set_cons_zero])
        refine tkN (i := 19) (oi := ⟨some 65, .binOp .eql 3 (.tmp 64) (.const (.int .i64 0)) 3, 4, "stext.go:265", #[⟨18, .data⟩, ⟨13, .guard⟩], some (13, true)⟩) rfl ?_; (try simp only [Act.put, List.setIfInBounds_toArray, List.set_cons_succ, List.set_cons_zero])
        refine tk (i := 20) (oi := ⟨some 66, .pick (.tmp 59) (.tmp 65) (.const (.bool false)), 4, "stext.go:265", #[⟨13, .data⟩, ⟨19, .data⟩], none⟩) rfl ?_; (try simp only [Act.put, List.setIfInBounds_toArray, List.set_cons_succ, List.set_cons_zero])
        refine tk (i := 21) (oi := ⟨some 67, .move (.tmp 66), 4, "stext.go:265", #[⟨20, .data⟩, ⟨13, .chain⟩], none⟩) rfl ?_; (try simp only [Act.put, List.setIfInBounds_toArray, List.set_cons_succ, List.set_cons_zero])
        refine tkN (i := 22) (oi := ⟨some 68, .load 42 (.tmp 6), 42, "stext.go:265", #[⟨21, .guard⟩], some (21, true)⟩) rfl ?_; (try simp only [Act.put, List.setIfInBounds_toArray, List.set_cons_succ, List.set_cons_zero])
        refine tkN (i := 23) (oi := ⟨some 69, .call { callee := .value (.func 21), args := #[.tmp 68], argTypes := #[42] }, 9, "stext.go:265", #[⟨22, .data⟩, ⟨21, .chain⟩, ⟨21, .guard⟩], some (21, true)⟩) rfl ?_; (try simp only [Act.put, List.setIfInBounds_toArray, List.set_cons_succ, List.set_cons_zero])
        refine tkN (i := 24) (oi := ⟨some 70, .move (.tmp 0), 9, "stext.go:265", #[⟨21, .guard⟩, { on := 27, ground := .gcOnly Go.Departure.lateStores }], some (21, true)⟩) rfl ?_; (try simp only [Act.put, List.setIfInBounds_toArray, List.set_cons_succ, List.set_cons_zero])
        refine tkN (i := 25) (oi := ⟨some 71, .binOp .eql 9 (.tmp 69) (.tmp 70) 9, 4, "stext.go:265", #[⟨23, .data⟩, ⟨24, .data⟩, ⟨21, .guard⟩, { on := 27, ground := .gcOnly Go.Departure.lateStores }], some (21, true)⟩) rfl ?_; (try simp only [Act.put, List.setIfInBounds_toArray, List.set_cons_succ, List.set_cons_zero])
        refine tk (i := 26) (oi := ⟨some 72, .pick (.tmp 67) (.tmp 71) (.const (.bool false)), 4, "stext.go:265", #[⟨21, .data⟩, ⟨25, .data⟩, { on := 27, ground := .gcOnly Go.Departure.lateStores }], none⟩) rfl ?_; (try simp only [Act.put, List.setIfInBounds_toArray, List.set_cons_succ, List.set_cons_zero])
        refine wpAnyH_ready (rs := [27]) (by kernel_rfl) (by simp) ?_
        refine AllReadyH.cons (o := ⟨none, .store 42 (.tmp 2) (.tmp 46), 0, "stext.go:265", #[⟨0, .data⟩, ⟨23, .chain⟩, ⟨0, .phase⟩, { on := 1, ground := .textOnly Go.Departure.lateStores }, { on := 2, ground := .textOnly Go.Departure.lateStores }, { on := 3, ground := .textOnly Go.Departure.lateStores }, { on := 4, ground := .textOnly Go.Departure.lateStores }, { on := 5, ground := .textOnly Go.Departure.lateStores }, { on := 6, ground := .textOnly Go.Departure.lateStores }, { on := 7, ground := .textOnly Go.Departure.lateStores }, { on := 8, ground := .textOnly Go.Departure.lateStores }, { on := 9, ground := .textOnly Go.Departure.lateStores }, { on := 10, ground := .textOnly Go.Departure.lateStores }, { on := 11, ground := .textOnly Go.Departure.lateStores }, { on := 12, ground := .textOnly Go.Departure.lateStores }, { on := 13, ground := .textOnly Go.Departure.lateStores }, { on := 14, ground := .textOnly Go.Departure.lateStores }, { on := 15, ground := .textOnly Go.Departure.lateStores }, { on := 16, ground := .textOnly Go.Departure.lateStores }, { on := 17, ground := .textOnly Go.Departure.lateStores }, { on := 18, ground := .textOnly Go.Departure.lateStoresUnsure }, { on := 19, ground := .textOnly Go.Departure.lateStores }, { on := 20, ground := .textOnly Go.Departure.lateStores }, { on := 21, ground := .textOnly Go.Departure.lateStores }, { on := 22, ground := .textOnly Go.Departure.lateStores }, { on := 23, ground := .textOnly Go.Departure.lateStoresUnsure }, { on := 24, ground := .textOnly Go.Departure.lateStores }, { on := 25, ground := .textOnly Go.Departure.lateStores }, { on := 26, ground := .textOnly Go.Departure.lateStores }], none⟩) rfl (fun K hK => ?_) AllReadyH.nil
        (rw [if_pos (by rfl)]; refine wp_store_row 42 (.tmp 2) (.tmp 46) rfl w.heap.size #[.int .i64 k, .int .i64 v1, .slice A v2.length c, .slice B L0.length d, .int .i64 v4] rfl rfl 42 #[.int .i64 0, .int .i64 0, .slice none 0 0, .slice none 0 0, .int .i64 0] VD info_send rfl (by simp [Value.oneCell']) ?_; have gS := setRow_grown (World.drew W) w.heap.size #[.int .i64 k, .int .i64 v1, .slice A v2.length c, .slice B L0.length d, .int .i64 v4]; have SS2 : (fun W' => W'.cell? ⟨Kx, 0, none⟩ = some (.int .i64 k) ∧ W'.cell? ⟨Kx, 1, none⟩ = some (.int .i64 v1) ∧ W'.cell? ⟨Kx, 2, none⟩ = some (.slice A v2.length c) ∧ W'.cell? ⟨Kx, 3, none⟩ = some (.slice B L0.length d) ∧ W'.cell? ⟨Kx, 4, none⟩ = some (.int .i64 v4) ∧ W'.cell? ⟨N, 0, none⟩ = some (.slice A1 rl4.length c1) ∧ W'.cell? ⟨N, 1, none⟩ = some (.bool false)) ((World.drew W).setRow w.heap.size #[.int .i64 k, .int .i64 v1, .slice A v2.length c, .slice B L0.length d, .int .i64 v4]) := ⟨gS.cell t0 (by simp; omega), gS.cell t1 (by simp; omega), gS.cell t2 (by simp; omega), gS.cell t3 (by simp; omega), gS.cell t4 (by simp; omega), gS.cell t5 (by simp; omega), gS.cell t6 (by simp; omega)⟩; dsimp only at SS2)
        (try dsimp only)
        refine hK.out _ _ ?_ (fun hHeld1 => ?_)
        · first | trivial | ((try dsimp only); first | assumption | trivial | go_keep)
        clear hK K hHeld0
        (try simp only [Act.put, List.setIfInBounds_toArray, List.set_cons_succ, List.set_cons_zero])
        refine tk (i := 28) (oi := ⟨some 3, .assign (.tmp 72), 4, "stext.go:265", #[⟨26, .data⟩, ⟨27, .chain⟩, ⟨0, .phase⟩, ⟨1, .phase⟩, ⟨2, .phase⟩, ⟨3, .phase⟩, ⟨4, .phase⟩, ⟨5, .phase⟩, ⟨6, .phase⟩, ⟨7, .phase⟩, ⟨8, .phase⟩, ⟨9, .phase⟩, ⟨10, .phase⟩, ⟨11, .phase⟩, ⟨12, .phase⟩, ⟨13, .phase⟩, ⟨14, .phase⟩, ⟨15, .phase⟩, ⟨16, .phase⟩, ⟨17, .phase⟩, ⟨18, .phase⟩, ⟨19, .phase⟩, ⟨20, .phase⟩, ⟨21, .phase⟩, ⟨22, .phase⟩, ⟨23, .phase⟩, ⟨24, .phase⟩, ⟨25, .phase⟩, ⟨26, .phase⟩, ⟨27, .phase⟩], none⟩) rfl ?_; (try simp only [Act.put, List.setIfInBounds_toArray, List.set_cons_succ, List.set_cons_zero])
        refine wpAnyH_done (by kernel_rfl) ?_ _
        (try dsimp only)
        repeat (first | go_values | go_skip | go_guarded | go_step | go_upon)
        have fin := endFin SX.out (below_drewN W 1) #[.int .i64 k, .int .i64 v1, .slice A v2.length c, .slice B L0.length d, .int .i64 v4]
        refine bodyPost_ret (results_cell_row_tmp rfl _ _ w.heap.size _ #[.int .i64 k, .int .i64 v1, .slice A v2.length c, .slice B L0.length d, .int .i64 v4] (0, 0) _ rfl (setRow_heap (World.drew W) w.heap.size #[.int .i64 0, .int .i64 0, .slice none 0 0, .slice none 0 0, .int .i64 0] _ _ (0, 0) VD) Tryz.underlying42 rfl (by kernel_rfl)) rfl ?_
        rw [HLe.out] at fin ⊢
        obtain rfl := HR.out
        exact ⟨⟨A, c, B, d, rfl, fin.2.1, fin.2.2⟩, fin.1⟩
      rcases hk0 : decide (0 ≤ k) with _ | _
      · have k0 : ¬ (0 : Int) ≤ k := by simpa using hk0
        have k1 : decide ((0 : Int) ≤ k) = false := hk0
        have HR : Hid (R = ((⟨k, v1, v2, es, v4⟩ : St.Fin), false)) := Lib.hid (by rw [HR.out, hk0]; rfl)
        clear hk0
        have SS : (fun W' => W'.cell? ⟨Kx, 0, none⟩ = some (.int .i64 k) ∧ W'.cell? ⟨Kx, 1, none⟩ = some (.int .i64 v1) ∧ W'.cell? ⟨Kx, 2, none⟩ = some (.slice A v2.length c) ∧ W'.cell? ⟨Kx, 3, none⟩ = some (.slice B L0.length d) ∧ W'.cell? ⟨Kx, 4, none⟩ = some (.int .i64 v4) ∧ W'.cell? ⟨N, 0, none⟩ = some (.slice A1 rl4.length c1) ∧ W'.cell? ⟨N, 1, none⟩ = some (.bool true)) (World.drew W) := ⟨c0_, c1_, c2_, c3_, c4_, c5_, c6_⟩
        dsimp only at SS
        have SSc := SS
        obtain ⟨t0, t1, t2, t3, t4, t5, t6⟩ := SSc
        have VD : (World.drew W).heap[w.heap.size]? = some (.cells #[.int .i64 0, .int .i64 0, .slice none 0 0, .slice none 0 0, .int .i64 0] 42 (0, 0)) := VR
        refine wp_region_held_drew (S := (fun W' => W'.cell? ⟨Kx, 0, none⟩ = some (.int .i64 k) ∧ W'.cell? ⟨Kx, 1, none⟩ = some (.int .i64 v1) ∧ W'.cell? ⟨Kx, 2, none⟩ = some (.slice A v2.length c) ∧ W'.cell? ⟨Kx, 3, none⟩ = some (.slice B L0.length d) ∧ W'.cell? ⟨Kx, 4, none⟩ = some (.int .i64 v4) ∧ W'.cell? ⟨N, 0, none⟩ = some (.slice A1 rl4.length c1) ∧ W'.cell? ⟨N, 1, none⟩ = some (.bool true))) (by kernel_rfl) ?_ (fun hHeld0 => ?_)
        · first | assumption | go_keep
        refine tk (i := 0) (oi := ⟨some 46, .load 42 (.tmp 6), 42, "stext.go:265", #[], none⟩) rfl ?_; (try simp only [Act.put, List.setIfInBounds_toArray, List.set_cons_succ, List.set_cons_zero])
        refine tk (i := 1) (oi := ⟨some 47, .move (.tmp 5), 4, "stext.go:265", #[], none⟩) rfl ?_; (try simp only [Act.put, List.setIfInBounds_toArray, List.set_cons_succ, List.set_cons_zero])
        refine tk (i := 2) (oi := ⟨some 48, .move (.tmp 47), 4, "stext.go:265", #[⟨1, .data⟩], none⟩) rfl ?_; (try simp only [Act.put, List.setIfInBounds_toArray, List.set_cons_succ, List.set_cons_zero])
        refine tk (i := 3) (oi := ⟨some 49, .move (.tmp 4), 130, "stext.go:265", #[⟨2, .guard⟩], some (2, true)⟩) rfl ?_; (try simp only [Act.put, List.setIfInBounds_toArray, List.set_cons_succ, List.set_cons_zero])
        refine tk (i := 4) (oi := ⟨some 50, .nilCheck (.tmp 49), 0, "stext.go:265", #[⟨3, .data⟩, ⟨2, .guard⟩], some (2, true)⟩) rfl ?_; (try simp only [Act.put, List.setIfInBounds_toArray, List.set_cons_succ, List.set_cons_zero])
        refine tk (i := 5) (oi := ⟨some 51, .fieldAddr 132 (.tmp 50) 1, 0, "stext.go:265", #[⟨4, .data⟩, ⟨2, .guard⟩], some (2, true)⟩) rfl ?_; (try simp only [Act.put, List.setIfInBounds_toArray, List.set_cons_succ, List.set_cons_zero])
        refine tk (i := 6) (oi := ⟨some 52, .load 4 (.tmp 51), 4, "stext.go:265", #[⟨5, .data⟩, ⟨2, .guard⟩], some (2, true)⟩) rfl ?_; (try simp only [Act.put, List.setIfInBounds_toArray, List.set_cons_succ, List.set_cons_zero])
        refine tk (i := 7) (oi := ⟨some 53, .pick (.tmp 48) (.tmp 52) (.const (.bool false)), 4, "stext.go:265", #[⟨2, .data⟩, ⟨6, .data⟩], none⟩) rfl ?_; (try simp only [Act.put, List.setIfInBounds_toArray, List.set_cons_succ, List.set_cons_zero])
        refine tk (i := 8) (oi := ⟨some 54, .move (.tmp 53), 4, "stext.go:265", #[⟨7, .data⟩, ⟨2, .chain⟩], none⟩) rfl ?_; (try simp only [Act.put, List.setIfInBounds_toArray, List.set_cons_succ, List.set_cons_zero])
        refine tk (i := 9) (oi := ⟨some 55, .fieldAddr 42 (.tmp 6) 0, 0, "stext.go:265", #[⟨8, .guard⟩], some (8, true)⟩) rfl ?_; (try simp only [Act.put, List.setIfInBounds_toArray, List.set_cons_succ, List.set_cons_zero])
        refine tk (i := 10) (oi := ⟨some 56, .load 3 (.tmp 55), 3, "stext.go:265", #[⟨9, .data⟩, ⟨8, .guard⟩], some (8, true)⟩) rfl ?_; (try simp only [Act.put, List.setIfInBounds_toArray, List.set_cons_succ, List.set_cons_zero])
        refine tk (i := 11) (oi := ⟨some 57, .binOp .geq 3 (.tmp 56) (.const (.int .i64 0)) 3, 4, "stext.go:265", #[⟨10, .data⟩, ⟨8, .guard⟩], some (8, true)⟩) rfl ?_; (try simp only [Act.put, List.setIfInBounds_toArray, List.set_cons_succ, List.set_cons_zero])
        refine tk (i := 12) (oi := ⟨some 58, .pick (.tmp 54) (.tmp 57) (.const (.bool false)), 4, "stext.go:265", #[⟨8, .data⟩, ⟨11, .data⟩], none⟩) rfl ?_; (try simp only [Act.put, List.setIfInBounds_toArray, List.set_cons_succ, List.set_cons_zero])
        refine tk (i := 13) (oi := ⟨some 59, .move (.tmp 58), 4, "stext.go:265", #[⟨12, .data⟩, ⟨8, .chain⟩], none⟩) rfl ?_; (try simp only [Act.put, List.setIfInBounds_toArray, List.set_cons_succ, List.set_cons_zero])
        refine tkN (i := 14) (oi := ⟨some 60, .move (.tmp 4), 130, "stext.go:265", #[⟨13, .guard⟩], some (13, true)⟩) rfl ?_; (try simp only [Act.put, List.setIfInBounds_toArray, List.set_cons_succ, List.set_cons_zero])
        refine tkN (i := 15) (oi := ⟨some 61, .nilCheck (.tmp 60), 0, "stext.go:265", #[⟨14, .data⟩, ⟨13, .guard⟩], some (13, true)⟩) rfl ?_; (try simp only [Act.put, List.setIfInBounds_toArray, List.set_cons_succ, List.set_cons_zero])
        refine tkN (i := 16) (oi := ⟨some 62, .fieldAddr 132 (.tmp 61) 0, 0, "stext.go:265", #[⟨15, .data⟩, ⟨13, .guard⟩], some (13, true)⟩) rfl ?_; (try simp only [Act.put, List.setIfInBounds_toArray, List.set_cons_succ, List.set_cons_zero])
        refine tkN (i := 17) (oi := ⟨some 63, .load 54 (.tmp 62), 54, "stext.go:265", #[⟨16, .data⟩, ⟨13, .guard⟩], some (13, true)⟩) rfl ?_; (try simp only [Act.put, List.setIfInBounds_toArray, List.set_cons_succ, List.set_cons_zero])
        refine tkN (i := 18) (oi := ⟨some 64, .call { callee := .builtin .len, args := #[.tmp 63], argTypes := #[54] }, 3, "stext.go:265", #[⟨17, .data⟩, ⟨13, .guard⟩], some (13, true)⟩) rfl ?_; (try simp only [Act.put, List.setIfInBounds_toArray, List.set_cons_succ, List.set_cons_zero])
        refine tkN (i := 19) (oi := ⟨some 65, .binOp .eql 3 (.tmp 64) (.const (.int .i64 0)) 3, 4, "stext.go:265", #[⟨18, .data⟩, ⟨13, .guard⟩], some (13, true)⟩) rfl ?_; (try simp only [Act.put, List.setIfInBounds_toArray, List.set_cons_succ, List.set_cons_zero])
        refine tk (i := 20) (oi := ⟨some 66, .pick (.tmp 59) (.tmp 65) (.const (.bool false)), 4, "stext.go:265", #[⟨13, .data⟩, ⟨19, .data⟩], none⟩) rfl ?_; (try simp only [Act.put, List.setIfInBounds_toArray, List.set_cons_succ, List.set_cons_zero])
        refine tk (i := 21) (oi := ⟨some 67, .move (.tmp 66), 4, "stext.go:265", #[⟨20, .data⟩, ⟨13, .chain⟩], none⟩) rfl ?_; (try simp only [Act.put, List.setIfInBounds_toArray, List.set_cons_succ, List.set_cons_zero])
        refine tkN (i := 22) (oi := ⟨some 68, .load 42 (.tmp 6), 42, "stext.go:265", #[⟨21, .guard⟩], some (21, true)⟩) rfl ?_; (try simp only [Act.put, List.setIfInBounds_toArray, List.set_cons_succ, List.set_cons_zero])
        refine tkN (i := 23) (oi := ⟨some 69, .call { callee := .value (.func 21), args := #[.tmp 68], argTypes := #[42] }, 9, "stext.go:265", #[⟨22, .data⟩, ⟨21, .chain⟩, ⟨21, .guard⟩], some (21, true)⟩) rfl ?_; (try simp only [Act.put, List.setIfInBounds_toArray, List.set_cons_succ, List.set_cons_zero])
        refine tkN (i := 24) (oi := ⟨some 70, .move (.tmp 0), 9, "stext.go:265", #[⟨21, .guard⟩, { on := 27, ground := .gcOnly Go.Departure.lateStores }], some (21, true)⟩) rfl ?_; (try simp only [Act.put, List.setIfInBounds_toArray, List.set_cons_succ, List.set_cons_zero])
        refine tkN (i := 25) (oi := ⟨some 71, .binOp .eql 9 (.tmp 69) (.tmp 70) 9, 4, "stext.go:265", #[⟨23, .data⟩, ⟨24, .data⟩, ⟨21, .guard⟩, { on := 27, ground := .gcOnly Go.Departure.lateStores }], some (21, true)⟩) rfl ?_; (try simp only [Act.put, List.setIfInBounds_toArray, List.set_cons_succ, List.set_cons_zero])
        refine tk (i := 26) (oi := ⟨some 72, .pick (.tmp 67) (.tmp 71) (.const (.bool false)), 4, "stext.go:265", #[⟨21, .data⟩, ⟨25, .data⟩, { on := 27, ground := .gcOnly Go.Departure.lateStores }], none⟩) rfl ?_; (try simp only [Act.put, List.setIfInBounds_toArray, List.set_cons_succ, List.set_cons_zero])
        refine wpAnyH_ready (rs := [27]) (by kernel_rfl) (by simp) ?_
        refine AllReadyH.cons (o := ⟨none, .store 42 (.tmp 2) (.tmp 46), 0, "stext.go:265", #[⟨0, .data⟩, ⟨23, .chain⟩, ⟨0, .phase⟩, { on := 1, ground := .textOnly Go.Departure.lateStores }, { on := 2, ground := .textOnly Go.Departure.lateStores }, { on := 3, ground := .textOnly Go.Departure.lateStores }, { on := 4, ground := .textOnly Go.Departure.lateStores }, { on := 5, ground := .textOnly Go.Departure.lateStores }, { on := 6, ground := .textOnly Go.Departure.lateStores }, { on := 7, ground := .textOnly Go.Departure.lateStores }, { on := 8, ground := .textOnly Go.Departure.lateStores }, { on := 9, ground := .textOnly Go.Departure.lateStores }, { on := 10, ground := .textOnly Go.Departure.lateStores }, { on := 11, ground := .textOnly Go.Departure.lateStores }, { on := 12, ground := .textOnly Go.Departure.lateStores }, { on := 13, ground := .textOnly Go.Departure.lateStores }, { on := 14, ground := .textOnly Go.Departure.lateStores }, { on := 15, ground := .textOnly Go.Departure.lateStores }, { on := 16, ground := .textOnly Go.Departure.lateStores }, { on := 17, ground := .textOnly Go.Departure.lateStores }, { on := 18, ground := .textOnly Go.Departure.lateStoresUnsure }, { on := 19, ground := .textOnly Go.Departure.lateStores }, { on := 20, ground := .textOnly Go.Departure.lateStores }, { on := 21, ground := .textOnly Go.Departure.lateStores }, { on := 22, ground := .textOnly Go.Departure.lateStores }, { on := 23, ground := .textOnly Go.Departure.lateStoresUnsure }, { on := 24, ground := .textOnly Go.Departure.lateStores }, { on := 25, ground := .textOnly Go.Departure.lateStores }, { on := 26, ground := .textOnly Go.Departure.lateStores }], none⟩) rfl (fun K hK => ?_) AllReadyH.nil
        (rw [if_pos (by rfl)]; refine wp_store_row 42 (.tmp 2) (.tmp 46) rfl w.heap.size #[.int .i64 k, .int .i64 v1, .slice A v2.length c, .slice B L0.length d, .int .i64 v4] rfl rfl 42 #[.int .i64 0, .int .i64 0, .slice none 0 0, .slice none 0 0, .int .i64 0] VD info_send rfl (by simp [Value.oneCell']) ?_; have gS := setRow_grown (World.drew W) w.heap.size #[.int .i64 k, .int .i64 v1, .slice A v2.length c, .slice B L0.length d, .int .i64 v4]; have SS2 : (fun W' => W'.cell? ⟨Kx, 0, none⟩ = some (.int .i64 k) ∧ W'.cell? ⟨Kx, 1, none⟩ = some (.int .i64 v1) ∧ W'.cell? ⟨Kx, 2, none⟩ = some (.slice A v2.length c) ∧ W'.cell? ⟨Kx, 3, none⟩ = some (.slice B L0.length d) ∧ W'.cell? ⟨Kx, 4, none⟩ = some (.int .i64 v4) ∧ W'.cell? ⟨N, 0, none⟩ = some (.slice A1 rl4.length c1) ∧ W'.cell? ⟨N, 1, none⟩ = some (.bool true)) ((World.drew W).setRow w.heap.size #[.int .i64 k, .int .i64 v1, .slice A v2.length c, .slice B L0.length d, .int .i64 v4]) := ⟨gS.cell t0 (by simp; omega), gS.cell t1 (by simp; omega), gS.cell t2 (by simp; omega), gS.cell t3 (by simp; omega), gS.cell t4 (by simp; omega), gS.cell t5 (by simp; omega), gS.cell t6 (by simp; omega)⟩; dsimp only at SS2)
        (try dsimp only)
        refine hK.out _ _ ?_ (fun hHeld1 => ?_)
        · first | trivial | ((try dsimp only); first | assumption | trivial | go_keep)
        clear hK K hHeld0
        (try simp only [Act.put, List.setIfInBounds_toArray, List.set_cons_succ, List.set_cons_zero])
        refine tk (i := 28) (oi := ⟨some 3, .assign (.tmp 72), 4, "stext.go:265", #[⟨26, .data⟩, ⟨27, .chain⟩, ⟨0, .phase⟩, ⟨1, .phase⟩, ⟨2, .phase⟩, ⟨3, .phase⟩, ⟨4, .phase⟩, ⟨5, .phase⟩, ⟨6, .phase⟩, ⟨7, .phase⟩, ⟨8, .phase⟩, ⟨9, .phase⟩, ⟨10, .phase⟩, ⟨11, .phase⟩, ⟨12, .phase⟩, ⟨13, .phase⟩, ⟨14, .phase⟩, ⟨15, .phase⟩, ⟨16, .phase⟩, ⟨17, .phase⟩, ⟨18, .phase⟩, ⟨19, .phase⟩, ⟨20, .phase⟩, ⟨21, .phase⟩, ⟨22, .phase⟩, ⟨23, .phase⟩, ⟨24, .phase⟩, ⟨25, .phase⟩, ⟨26, .phase⟩, ⟨27, .phase⟩], none⟩) rfl ?_; (try simp only [Act.put, List.setIfInBounds_toArray, List.set_cons_succ, List.set_cons_zero])
        refine wpAnyH_done (by kernel_rfl) ?_ _
        (try dsimp only)
        repeat (first | go_values | go_skip | go_guarded | go_step | go_upon)
        have fin := endFin SX.out (below_drewN W 1) #[.int .i64 k, .int .i64 v1, .slice A v2.length c, .slice B L0.length d, .int .i64 v4]
        refine bodyPost_ret (results_cell_row_tmp rfl _ _ w.heap.size _ #[.int .i64 k, .int .i64 v1, .slice A v2.length c, .slice B L0.length d, .int .i64 v4] (0, 0) _ rfl (setRow_heap (World.drew W) w.heap.size #[.int .i64 0, .int .i64 0, .slice none 0 0, .slice none 0 0, .int .i64 0] _ _ (0, 0) VD) Tryz.underlying42 rfl (by kernel_rfl)) rfl ?_
        rw [HLe.out] at fin ⊢
        obtain rfl := HR.out
        exact ⟨⟨A, c, B, d, rfl, fin.2.1, fin.2.2⟩, fin.1⟩
      have k0 : (0 : Int) ≤ k := by simpa using hk0
      rcases rl4 with _ | ⟨u, rl4⟩
      · by_cases he : St.finO ⟨k, v1, v2, es, v4⟩ = s
        · have HR : Hid (R = ((⟨k, v1, v2, es, v4⟩ : St.Fin), true)) := Lib.hid (by rw [HR.out, hk0, he]; simp)
          rw [he] at HFin
          clear hk0 he
          have SS : (fun W' => W'.cell? ⟨Kx, 0, none⟩ = some (.int .i64 k) ∧ W'.cell? ⟨Kx, 1, none⟩ = some (.int .i64 v1) ∧ W'.cell? ⟨Kx, 2, none⟩ = some (.slice A v2.length c) ∧ W'.cell? ⟨Kx, 3, none⟩ = some (.slice B L0.length d) ∧ W'.cell? ⟨Kx, 4, none⟩ = some (.int .i64 v4) ∧ W'.cell? ⟨N, 0, none⟩ = some (.slice A1 0 c1) ∧ W'.cell? ⟨N, 1, none⟩ = some (.bool true)) (World.drew W) := ⟨c0_, c1_, c2_, c3_, c4_, c5_, c6_⟩
          dsimp only at SS
          have SSc := SS
          obtain ⟨t0, t1, t2, t3, t4, t5, t6⟩ := SSc
          have VD : (World.drew W).heap[w.heap.size]? = some (.cells #[.int .i64 0, .int .i64 0, .slice none 0 0, .slice none 0 0, .int .i64 0] 42 (0, 0)) := VR
          refine wp_region_held_drew (S := (fun W' => W'.cell? ⟨Kx, 0, none⟩ = some (.int .i64 k) ∧ W'.cell? ⟨Kx, 1, none⟩ = some (.int .i64 v1) ∧ W'.cell? ⟨Kx, 2, none⟩ = some (.slice A v2.length c) ∧ W'.cell? ⟨Kx, 3, none⟩ = some (.slice B L0.length d) ∧ W'.cell? ⟨Kx, 4, none⟩ = some (.int .i64 v4) ∧ W'.cell? ⟨N, 0, none⟩ = some (.slice A1 0 c1) ∧ W'.cell? ⟨N, 1, none⟩ = some (.bool true))) (by kernel_rfl) ?_ (fun hHeld0 => ?_)
          · first | assumption | go_keep
          refine tk (i := 0) (oi := ⟨some 46, .load 42 (.tmp 6), 42, "stext.go:265", #[], none⟩) rfl ?_; (try simp only [Act.put, List.setIfInBounds_toArray, List.set_cons_succ, List.set_cons_zero])
          refine tk (i := 1) (oi := ⟨some 47, .move (.tmp 5), 4, "stext.go:265", #[], none⟩) rfl ?_; (try simp only [Act.put, List.setIfInBounds_toArray, List.set_cons_succ, List.set_cons_zero])
          refine tk (i := 2) (oi := ⟨some 48, .move (.tmp 47), 4, "stext.go:265", #[⟨1, .data⟩], none⟩) rfl ?_; (try simp only [Act.put, List.setIfInBounds_toArray, List.set_cons_succ, List.set_cons_zero])
          refine tk (i := 3) (oi := ⟨some 49, .move (.tmp 4), 130, "stext.go:265", #[⟨2, .guard⟩], some (2, true)⟩) rfl ?_; (try simp only [Act.put, List.setIfInBounds_toArray, List.set_cons_succ, List.set_cons_zero])
          refine tk (i := 4) (oi := ⟨some 50, .nilCheck (.tmp 49), 0, "stext.go:265", #[⟨3, .data⟩, ⟨2, .guard⟩], some (2, true)⟩) rfl ?_; (try simp only [Act.put, List.setIfInBounds_toArray, List.set_cons_succ, List.set_cons_zero])
          refine tk (i := 5) (oi := ⟨some 51, .fieldAddr 132 (.tmp 50) 1, 0, "stext.go:265", #[⟨4, .data⟩, ⟨2, .guard⟩], some (2, true)⟩) rfl ?_; (try simp only [Act.put, List.setIfInBounds_toArray, List.set_cons_succ, List.set_cons_zero])
          refine tk (i := 6) (oi := ⟨some 52, .load 4 (.tmp 51), 4, "stext.go:265", #[⟨5, .data⟩, ⟨2, .guard⟩], some (2, true)⟩) rfl ?_; (try simp only [Act.put, List.setIfInBounds_toArray, List.set_cons_succ, List.set_cons_zero])
          refine tk (i := 7) (oi := ⟨some 53, .pick (.tmp 48) (.tmp 52) (.const (.bool false)), 4, "stext.go:265", #[⟨2, .data⟩, ⟨6, .data⟩], none⟩) rfl ?_; (try simp only [Act.put, List.setIfInBounds_toArray, List.set_cons_succ, List.set_cons_zero])
          refine tk (i := 8) (oi := ⟨some 54, .move (.tmp 53), 4, "stext.go:265", #[⟨7, .data⟩, ⟨2, .chain⟩], none⟩) rfl ?_; (try simp only [Act.put, List.setIfInBounds_toArray, List.set_cons_succ, List.set_cons_zero])
          refine tk (i := 9) (oi := ⟨some 55, .fieldAddr 42 (.tmp 6) 0, 0, "stext.go:265", #[⟨8, .guard⟩], some (8, true)⟩) rfl ?_; (try simp only [Act.put, List.setIfInBounds_toArray, List.set_cons_succ, List.set_cons_zero])
          refine tk (i := 10) (oi := ⟨some 56, .load 3 (.tmp 55), 3, "stext.go:265", #[⟨9, .data⟩, ⟨8, .guard⟩], some (8, true)⟩) rfl ?_; (try simp only [Act.put, List.setIfInBounds_toArray, List.set_cons_succ, List.set_cons_zero])
          refine tk (i := 11) (oi := ⟨some 57, .binOp .geq 3 (.tmp 56) (.const (.int .i64 0)) 3, 4, "stext.go:265", #[⟨10, .data⟩, ⟨8, .guard⟩], some (8, true)⟩) rfl ?_; (try simp only [Act.put, List.setIfInBounds_toArray, List.set_cons_succ, List.set_cons_zero])
          refine tk (i := 12) (oi := ⟨some 58, .pick (.tmp 54) (.tmp 57) (.const (.bool false)), 4, "stext.go:265", #[⟨8, .data⟩, ⟨11, .data⟩], none⟩) rfl ?_; (try simp only [Act.put, List.setIfInBounds_toArray, List.set_cons_succ, List.set_cons_zero])
          refine tk (i := 13) (oi := ⟨some 59, .move (.tmp 58), 4, "stext.go:265", #[⟨12, .data⟩, ⟨8, .chain⟩], none⟩) rfl ?_; (try simp only [Act.put, List.setIfInBounds_toArray, List.set_cons_succ, List.set_cons_zero])
          refine tk (i := 14) (oi := ⟨some 60, .move (.tmp 4), 130, "stext.go:265", #[⟨13, .guard⟩], some (13, true)⟩) rfl ?_; (try simp only [Act.put, List.setIfInBounds_toArray, List.set_cons_succ, List.set_cons_zero])
          refine tk (i := 15) (oi := ⟨some 61, .nilCheck (.tmp 60), 0, "stext.go:265", #[⟨14, .data⟩, ⟨13, .guard⟩], some (13, true)⟩) rfl ?_; (try simp only [Act.put, List.setIfInBounds_toArray, List.set_cons_succ, List.set_cons_zero])
          refine tk (i := 16) (oi := ⟨some 62, .fieldAddr 132 (.tmp 61) 0, 0, "stext.go:265", #[⟨15, .data⟩, ⟨13, .guard⟩], some (13, true)⟩) rfl ?_; (try simp only [Act.put, List.setIfInBounds_toArray, List.set_cons_succ, List.set_cons_zero])
          refine tk (i := 17) (oi := ⟨some 63, .load 54 (.tmp 62), 54, "stext.go:265", #[⟨16, .data⟩, ⟨13, .guard⟩], some (13, true)⟩) rfl ?_; (try simp only [Act.put, List.setIfInBounds_toArray, List.set_cons_succ, List.set_cons_zero])
          refine tk (i := 18) (oi := ⟨some 64, .call { callee := .builtin .len, args := #[.tmp 63], argTypes := #[54] }, 3, "stext.go:265", #[⟨17, .data⟩, ⟨13, .guard⟩], some (13, true)⟩) rfl ?_; (try simp only [Act.put, List.setIfInBounds_toArray, List.set_cons_succ, List.set_cons_zero])
          refine tk (i := 19) (oi := ⟨some 65, .binOp .eql 3 (.tmp 64) (.const (.int .i64 0)) 3, 4, "stext.go:265", #[⟨18, .data⟩, ⟨13, .guard⟩], some (13, true)⟩) rfl ?_; (try simp only [Act.put, List.setIfInBounds_toArray, List.set_cons_succ, List.set_cons_zero])
          refine tk (i := 20) (oi := ⟨some 66, .pick (.tmp 59) (.tmp 65) (.const (.bool false)), 4, "stext.go:265", #[⟨13, .data⟩, ⟨19, .data⟩], none⟩) rfl ?_; (try simp only [Act.put, List.setIfInBounds_toArray, List.set_cons_succ, List.set_cons_zero])
          refine tk (i := 21) (oi := ⟨some 67, .move (.tmp 66), 4, "stext.go:265", #[⟨20, .data⟩, ⟨13, .chain⟩], none⟩) rfl ?_; (try simp only [Act.put, List.setIfInBounds_toArray, List.set_cons_succ, List.set_cons_zero])
          refine tk (i := 22) (oi := ⟨some 68, .load 42 (.tmp 6), 42, "stext.go:265", #[⟨21, .guard⟩], some (21, true)⟩) rfl ?_; (try simp only [Act.put, List.setIfInBounds_toArray, List.set_cons_succ, List.set_cons_zero])
          refine tk (i := 24) (oi := ⟨some 70, .move (.tmp 0), 9, "stext.go:265", #[⟨21, .guard⟩, { on := 27, ground := .gcOnly Go.Departure.lateStores }], some (21, true)⟩) rfl ?_; (try simp only [Act.put, List.setIfInBounds_toArray, List.set_cons_succ, List.set_cons_zero])
          refine wpAnyH_ready (rs := [23]) (by kernel_rfl) (by simp) ?_
          refine AllReadyH.cons (o := ⟨some 69, .call { callee := .value (.func 21), args := #[.tmp 68], argTypes := #[42] }, 9, "stext.go:265", #[⟨22, .data⟩, ⟨21, .chain⟩, ⟨21, .guard⟩], some (21, true)⟩) rfl (fun K hK => ?_) AllReadyH.nil
          go_simp
          (refine HFin.out.mono ?_; rintro e w5 ⟨rfl, hb5⟩; have U5 := Lib.hid ((below_drewN W 1).trans (hb5.mono (Nat.le_refl _))); have V5 := var_keep VR U5.out; have kp := Below.keep U5.out (fun _ => True); have d0 := kp _ _ trivial c0_; have d1 := kp _ _ trivial c1_; have d2 := kp _ _ trivial c2_; have d3 := kp _ _ trivial c3_; have d4 := kp _ _ trivial c4_; have d5 := kp _ _ trivial c5_; have d6 := kp _ _ trivial c6_; clear kp hb5; have SS5 : (fun W' => W'.cell? ⟨Kx, 0, none⟩ = some (.int .i64 k) ∧ W'.cell? ⟨Kx, 1, none⟩ = some (.int .i64 v1) ∧ W'.cell? ⟨Kx, 2, none⟩ = some (.slice A v2.length c) ∧ W'.cell? ⟨Kx, 3, none⟩ = some (.slice B L0.length d) ∧ W'.cell? ⟨Kx, 4, none⟩ = some (.int .i64 v4) ∧ W'.cell? ⟨N, 0, none⟩ = some (.slice A1 0 c1) ∧ W'.cell? ⟨N, 1, none⟩ = some (.bool true)) w5 := ⟨d0, d1, d2, d3, d4, d5, d6⟩; dsimp only at SS5)
          (try dsimp only)
          refine hK.out _ _ ?_ (fun hHeld1 => ?_)
          · first | trivial | ((try dsimp only); first | assumption | trivial | go_keep)
          clear hK K hHeld0
          (try simp only [Act.put, List.setIfInBounds_toArray, List.set_cons_succ, List.set_cons_zero])
          refine tk (i := 25) (oi := ⟨some 71, .binOp .eql 9 (.tmp 69) (.tmp 70) 9, 4, "stext.go:265", #[⟨23, .data⟩, ⟨24, .data⟩, ⟨21, .guard⟩, { on := 27, ground := .gcOnly Go.Departure.lateStores }], some (21, true)⟩) rfl ?_; (try simp only [Act.put, List.setIfInBounds_toArray, List.set_cons_succ, List.set_cons_zero])
          refine tk (i := 26) (oi := ⟨some 72, .pick (.tmp 67) (.tmp 71) (.const (.bool false)), 4, "stext.go:265", #[⟨21, .data⟩, ⟨25, .data⟩, { on := 27, ground := .gcOnly Go.Departure.lateStores }], none⟩) rfl ?_; (try simp only [Act.put, List.setIfInBounds_toArray, List.set_cons_succ, List.set_cons_zero])
          refine wpAnyH_ready (rs := [27]) (by kernel_rfl) (by simp) ?_
          refine AllReadyH.cons (o := ⟨none, .store 42 (.tmp 2) (.tmp 46), 0, "stext.go:265", #[⟨0, .data⟩, ⟨23, .chain⟩, ⟨0, .phase⟩, { on := 1, ground := .textOnly Go.Departure.lateStores }, { on := 2, ground := .textOnly Go.Departure.lateStores }, { on := 3, ground := .textOnly Go.Departure.lateStores }, { on := 4, ground := .textOnly Go.Departure.lateStores }, { on := 5, ground := .textOnly Go.Departure.lateStores }, { on := 6, ground := .textOnly Go.Departure.lateStores }, { on := 7, ground := .textOnly Go.Departure.lateStores }, { on := 8, ground := .textOnly Go.Departure.lateStores }, { on := 9, ground := .textOnly Go.Departure.lateStores }, { on := 10, ground := .textOnly Go.Departure.lateStores }, { on := 11, ground := .textOnly Go.Departure.lateStores }, { on := 12, ground := .textOnly Go.Departure.lateStores }, { on := 13, ground := .textOnly Go.Departure.lateStores }, { on := 14, ground := .textOnly Go.Departure.lateStores }, { on := 15, ground := .textOnly Go.Departure.lateStores }, { on := 16, ground := .textOnly Go.Departure.lateStores }, { on := 17, ground := .textOnly Go.Departure.lateStores }, { on := 18, ground := .textOnly Go.Departure.lateStoresUnsure }, { on := 19, ground := .textOnly Go.Departure.lateStores }, { on := 20, ground := .textOnly Go.Departure.lateStores }, { on := 21, ground := .textOnly Go.Departure.lateStores }, { on := 22, ground := .textOnly Go.Departure.lateStores }, { on := 23, ground := .textOnly Go.Departure.lateStoresUnsure }, { on := 24, ground := .textOnly Go.Departure.lateStores }, { on := 25, ground := .textOnly Go.Departure.lateStores }, { on := 26, ground := .textOnly Go.Departure.lateStores }], none⟩) rfl (fun K hK => ?_) AllReadyH.nil
          (rw [if_pos (by rfl)]; refine wp_store_row 42 (.tmp 2) (.tmp 46) rfl w.heap.size #[.int .i64 k, .int .i64 v1, .slice A v2.length c, .slice B L0.length d, .int .i64 v4] rfl rfl 42 #[.int .i64 0, .int .i64 0, .slice none 0 0, .slice none 0 0, .int .i64 0] V5 info_send rfl (by simp [Value.oneCell']) ?_; have gS := setRow_grown w5 w.heap.size #[.int .i64 k, .int .i64 v1, .slice A v2.length c, .slice B L0.length d, .int .i64 v4]; have SS2 : (fun W' => W'.cell? ⟨Kx, 0, none⟩ = some (.int .i64 k) ∧ W'.cell? ⟨Kx, 1, none⟩ = some (.int .i64 v1) ∧ W'.cell? ⟨Kx, 2, none⟩ = some (.slice A v2.length c) ∧ W'.cell? ⟨Kx, 3, none⟩ = some (.slice B L0.length d) ∧ W'.cell? ⟨Kx, 4, none⟩ = some (.int .i64 v4) ∧ W'.cell? ⟨N, 0, none⟩ = some (.slice A1 0 c1) ∧ W'.cell? ⟨N, 1, none⟩ = some (.bool true)) (w5.setRow w.heap.size #[.int .i64 k, .int .i64 v1, .slice A v2.length c, .slice B L0.length d, .int .i64 v4]) := ⟨gS.cell d0 (by simp; omega), gS.cell d1 (by simp; omega), gS.cell d2 (by simp; omega), gS.cell d3 (by simp; omega), gS.cell d4 (by simp; omega), gS.cell d5 (by simp; omega), gS.cell d6 (by simp; omega)⟩; dsimp only at SS2)
          (try dsimp only)
          refine hK.out _ _ ?_ (fun hHeld2 => ?_)
          · first | trivial | ((try dsimp only); first | assumption | trivial | go_keep)
          clear hK K hHeld1
          (try simp only [Act.put, List.setIfInBounds_toArray, List.set_cons_succ, List.set_cons_zero])
          refine tk (i := 28) (oi := ⟨some 3, .assign (.tmp 72), 4, "stext.go:265", #[⟨26, .data⟩, ⟨27, .chain⟩, ⟨0, .phase⟩, ⟨1, .phase⟩, ⟨2, .phase⟩, ⟨3, .phase⟩, ⟨4, .phase⟩, ⟨5, .phase⟩, ⟨6, .phase⟩, ⟨7, .phase⟩, ⟨8, .phase⟩, ⟨9, .phase⟩, ⟨10, .phase⟩, ⟨11, .phase⟩, ⟨12, .phase⟩, ⟨13, .phase⟩, ⟨14, .phase⟩, ⟨15, .phase⟩, ⟨16, .phase⟩, ⟨17, .phase⟩, ⟨18, .phase⟩, ⟨19, .phase⟩, ⟨20, .phase⟩, ⟨21, .phase⟩, ⟨22, .phase⟩, ⟨23, .phase⟩, ⟨24, .phase⟩, ⟨25, .phase⟩, ⟨26, .phase⟩, ⟨27, .phase⟩], none⟩) rfl ?_; (try simp only [Act.put, List.setIfInBounds_toArray, List.set_cons_succ, List.set_cons_zero])
          refine wpAnyH_done (by kernel_rfl) ?_ _
          (try dsimp only)
          repeat (first | go_values | go_skip | go_guarded | go_step | go_upon)
          have fin := endFin SX.out U5.out #[.int .i64 k, .int .i64 v1, .slice A v2.length c, .slice B L0.length d, .int .i64 v4]
          refine bodyPost_ret (results_cell_row_tmp rfl _ _ w.heap.size _ #[.int .i64 k, .int .i64 v1, .slice A v2.length c, .slice B L0.length d, .int .i64 v4] (0, 0) _ rfl (setRow_heap w5 w.heap.size #[.int .i64 0, .int .i64 0, .slice none 0 0, .slice none 0 0, .int .i64 0] _ _ (0, 0) V5) Tryz.underlying42 rfl (by kernel_rfl)) rfl ?_
          rw [HLe.out] at fin ⊢
          obtain rfl := HR.out
          exact ⟨⟨A, c, B, d, rfl, fin.2.1, fin.2.2⟩, fin.1⟩
        · have hq2 : (St.finO ⟨k, v1, v2, es, v4⟩ == s) = false := by simpa using he
          have HR : Hid (R = ((⟨k, v1, v2, es, v4⟩ : St.Fin), false)) := Lib.hid (by rw [HR.out, hk0, hq2]; rfl)
          obtain ⟨J, hJ⟩ : ∃ x, St.finO ⟨k, v1, v2, es, v4⟩ = x := ⟨_, rfl⟩
          rw [hJ] at HFin he hq2
          have hq := beq_no he
          clear hk0 he hJ
          have SS : (fun W' => W'.cell? ⟨Kx, 0, none⟩ = some (.int .i64 k) ∧ W'.cell? ⟨Kx, 1, none⟩ = some (.int .i64 v1) ∧ W'.cell? ⟨Kx, 2, none⟩ = some (.slice A v2.length c) ∧ W'.cell? ⟨Kx, 3, none⟩ = some (.slice B L0.length d) ∧ W'.cell? ⟨Kx, 4, none⟩ = some (.int .i64 v4) ∧ W'.cell? ⟨N, 0, none⟩ = some (.slice A1 0 c1) ∧ W'.cell? ⟨N, 1, none⟩ = some (.bool true)) (World.drew W) := ⟨c0_, c1_, c2_, c3_, c4_, c5_, c6_⟩
          dsimp only at SS
          have SSc := SS
          obtain ⟨t0, t1, t2, t3, t4, t5, t6⟩ := SSc
          have VD : (World.drew W).heap[w.heap.size]? = some (.cells #[.int .i64 0, .int .i64 0, .slice none 0 0, .slice none 0 0, .int .i64 0] 42 (0, 0)) := VR
          refine wp_region_held_drew (S := (fun W' => W'.cell? ⟨Kx, 0, none⟩ = some (.int .i64 k) ∧ W'.cell? ⟨Kx, 1, none⟩ = some (.int .i64 v1) ∧ W'.cell? ⟨Kx, 2, none⟩ = some (.slice A v2.length c) ∧ W'.cell? ⟨Kx, 3, none⟩ = some (.slice B L0.length d) ∧ W'.cell? ⟨Kx, 4, none⟩ = some (.int .i64 v4) ∧ W'.cell? ⟨N, 0, none⟩ = some (.slice A1 0 c1) ∧ W'.cell? ⟨N, 1, none⟩ = some (.bool true))) (by kernel_rfl) ?_ (fun hHeld0 => ?_)
          · first | assumption | go_keep
          refine tk (i := 0) (oi := ⟨some 46, .load 42 (.tmp 6), 42, "stext.go:265", #[], none⟩) rfl ?_; (try simp only [Act.put, List.setIfInBounds_toArray, List.set_cons_succ, List.set_cons_zero])
          refine tk (i := 1) (oi := ⟨some 47, .move (.tmp 5), 4, "stext.go:265", #[], none⟩) rfl ?_; (try simp only [Act.put, List.setIfInBounds_toArray, List.set_cons_succ, List.set_cons_zero])
          refine tk (i := 2) (oi := ⟨some 48, .move (.tmp 47), 4, "stext.go:265", #[⟨1, .data⟩], none⟩) rfl ?_; (try simp only [Act.put, List.setIfInBounds_toArray, List.set_cons_succ, List.set_cons_zero])
          refine tk (i := 3) (oi := ⟨some 49, .move (.tmp 4), 130, "stext.go:265", #[⟨2, .guard⟩], some (2, true)⟩) rfl ?_; (try simp only [Act.put, List.setIfInBounds_toArray, List.set_cons_succ, List.set_cons_zero])
          refine tk (i := 4) (oi := ⟨some 50, .nilCheck (.tmp 49), 0, "stext.go:265", #[⟨3, .data⟩, ⟨2, .guard⟩], some (2, true)⟩) rfl ?_; (try simp only [Act.put, List.setIfInBounds_toArray, List.set_cons_succ, List.set_cons_zero])
          refine tk (i := 5) (oi := ⟨some 51, .fieldAddr 132 (.tmp 50) 1, 0, "stext.go:265", #[⟨4, .data⟩, ⟨2, .guard⟩], some (2, true)⟩) rfl ?_; (try simp only [Act.put, List.setIfInBounds_toArray, List.set_cons_succ, List.set_cons_zero])
          refine tk (i := 6) (oi := ⟨some 52, .load 4 (.tmp 51), 4, "stext.go:265", #[⟨5, .data⟩, ⟨2, .guard⟩], some (2, true)⟩) rfl ?_; (try simp only [Act.put, List.setIfInBounds_toArray, List.set_cons_succ, List.set_cons_zero])
          refine tk (i := 7) (oi := ⟨some 53, .pick (.tmp 48) (.tmp 52) (.const (.bool false)), 4, "stext.go:265", #[⟨2, .data⟩, ⟨6, .data⟩], none⟩) rfl ?_; (try simp only [Act.put, List.setIfInBounds_toArray, List.set_cons_succ, List.set_cons_zero])
          refine tk (i := 8) (oi := ⟨some 54, .move (.tmp 53), 4, "stext.go:265", #[⟨7, .data⟩, ⟨2, .chain⟩], none⟩) rfl ?_; (try simp only [Act.put, List.setIfInBounds_toArray, List.set_cons_succ, List.set_cons_zero])
          refine tk (i := 9) (oi := ⟨some 55, .fieldAddr 42 (.tmp 6) 0, 0, "stext.go:265", #[⟨8, .guard⟩], some (8, true)⟩) rfl ?_; (try simp only [Act.put, List.setIfInBounds_toArray, List.set_cons_succ, List.set_cons_zero])
          refine tk (i := 10) (oi := ⟨some 56, .load 3 (.tmp 55), 3, "stext.go:265", #[⟨9, .data⟩, ⟨8, .guard⟩], some (8, true)⟩) rfl ?_; (try simp only [Act.put, List.setIfInBounds_toArray, List.set_cons_succ, List.set_cons_zero])
          refine tk (i := 11) (oi := ⟨some 57, .binOp .geq 3 (.tmp 56) (.const (.int .i64 0)) 3, 4, "stext.go:265", #[⟨10, .data⟩, ⟨8, .guard⟩], some (8, true)⟩) rfl ?_; (try simp only [Act.put, List.setIfInBounds_toArray, List.set_cons_succ, List.set_cons_zero])
          refine tk (i := 12) (oi := ⟨some 58, .pick (.tmp 54) (.tmp 57) (.const (.bool false)), 4, "stext.go:265", #[⟨8, .data⟩, ⟨11, .data⟩], none⟩) rfl ?_; (try simp only [Act.put, List.setIfInBounds_toArray, List.set_cons_succ, List.set_cons_zero])
          refine tk (i := 13) (oi := ⟨some 59, .move (.tmp 58), 4, "stext.go:265", #[⟨12, .data⟩, ⟨8, .chain⟩], none⟩) rfl ?_; (try simp only [Act.put, List.setIfInBounds_toArray, List.set_cons_succ, List.set_cons_zero])
          refine tk (i := 14) (oi := ⟨some 60, .move (.tmp 4), 130, "stext.go:265", #[⟨13, .guard⟩], some (13, true)⟩) rfl ?_; (try simp only [Act.put, List.setIfInBounds_toArray, List.set_cons_succ, List.set_cons_zero])
          refine tk (i := 15) (oi := ⟨some 61, .nilCheck (.tmp 60), 0, "stext.go:265", #[⟨14, .data⟩, ⟨13, .guard⟩], some (13, true)⟩) rfl ?_; (try simp only [Act.put, List.setIfInBounds_toArray, List.set_cons_succ, List.set_cons_zero])
          refine tk (i := 16) (oi := ⟨some 62, .fieldAddr 132 (.tmp 61) 0, 0, "stext.go:265", #[⟨15, .data⟩, ⟨13, .guard⟩], some (13, true)⟩) rfl ?_; (try simp only [Act.put, List.setIfInBounds_toArray, List.set_cons_succ, List.set_cons_zero])
          refine tk (i := 17) (oi := ⟨some 63, .load 54 (.tmp 62), 54, "stext.go:265", #[⟨16, .data⟩, ⟨13, .guard⟩], some (13, true)⟩) rfl ?_; (try simp only [Act.put, List.setIfInBounds_toArray, List.set_cons_succ, List.set_cons_zero])
          refine tk (i := 18) (oi := ⟨some 64, .call { callee := .builtin .len, args := #[.tmp 63], argTypes := #[54] }, 3, "stext.go:265", #[⟨17, .data⟩, ⟨13, .guard⟩], some (13, true)⟩) rfl ?_; (try simp only [Act.put, List.setIfInBounds_toArray, List.set_cons_succ, List.set_cons_zero])
          refine tk (i := 19) (oi := ⟨some 65, .binOp .eql 3 (.tmp 64) (.const (.int .i64 0)) 3, 4, "stext.go:265", #[⟨18, .data⟩, ⟨13, .guard⟩], some (13, true)⟩) rfl ?_; (try simp only [Act.put, List.setIfInBounds_toArray, List.set_cons_succ, List.set_cons_zero])
          refine tk (i := 20) (oi := ⟨some 66, .pick (.tmp 59) (.tmp 65) (.const (.bool false)), 4, "stext.go:265", #[⟨13, .data⟩, ⟨19, .data⟩], none⟩) rfl ?_; (try simp only [Act.put, List.setIfInBounds_toArray, List.set_cons_succ, List.set_cons_zero])
          refine tk (i := 21) (oi := ⟨some 67, .move (.tmp 66), 4, "stext.go:265", #[⟨20, .data⟩, ⟨13, .chain⟩], none⟩) rfl ?_; (try simp only [Act.put, List.setIfInBounds_toArray, List.set_cons_succ, List.set_cons_zero])
          refine tk (i := 22) (oi := ⟨some 68, .load 42 (.tmp 6), 42, "stext.go:265", #[⟨21, .guard⟩], some (21, true)⟩) rfl ?_; (try simp only [Act.put, List.setIfInBounds_toArray, List.set_cons_succ, List.set_cons_zero])
          refine tk (i := 24) (oi := ⟨some 70, .move (.tmp 0), 9, "stext.go:265", #[⟨21, .guard⟩, { on := 27, ground := .gcOnly Go.Departure.lateStores }], some (21, true)⟩) rfl ?_; (try simp only [Act.put, List.setIfInBounds_toArray, List.set_cons_succ, List.set_cons_zero])
          refine wpAnyH_ready (rs := [23]) (by kernel_rfl) (by simp) ?_
          refine AllReadyH.cons (o := ⟨some 69, .call { callee := .value (.func 21), args := #[.tmp 68], argTypes := #[42] }, 9, "stext.go:265", #[⟨22, .data⟩, ⟨21, .chain⟩, ⟨21, .guard⟩], some (21, true)⟩) rfl (fun K hK => ?_) AllReadyH.nil
          go_simp
          (refine HFin.out.mono ?_; rintro e w5 ⟨rfl, hb5⟩; have U5 := Lib.hid ((below_drewN W 1).trans (hb5.mono (Nat.le_refl _))); have V5 := var_keep VR U5.out; have kp := Below.keep U5.out (fun _ => True); have d0 := kp _ _ trivial c0_; have d1 := kp _ _ trivial c1_; have d2 := kp _ _ trivial c2_; have d3 := kp _ _ trivial c3_; have d4 := kp _ _ trivial c4_; have d5 := kp _ _ trivial c5_; have d6 := kp _ _ trivial c6_; clear kp hb5; have SS5 : (fun W' => W'.cell? ⟨Kx, 0, none⟩ = some (.int .i64 k) ∧ W'.cell? ⟨Kx, 1, none⟩ = some (.int .i64 v1) ∧ W'.cell? ⟨Kx, 2, none⟩ = some (.slice A v2.length c) ∧ W'.cell? ⟨Kx, 3, none⟩ = some (.slice B L0.length d) ∧ W'.cell? ⟨Kx, 4, none⟩ = some (.int .i64 v4) ∧ W'.cell? ⟨N, 0, none⟩ = some (.slice A1 0 c1) ∧ W'.cell? ⟨N, 1, none⟩ = some (.bool true)) w5 := ⟨d0, d1, d2, d3, d4, d5, d6⟩; dsimp only at SS5)
          (try dsimp only)
          refine hK.out _ _ ?_ (fun hHeld1 => ?_)
          · first | trivial | ((try dsimp only); first | assumption | trivial | go_keep)
          clear hK K hHeld0
          (try simp only [Act.put, List.setIfInBounds_toArray, List.set_cons_succ, List.set_cons_zero])
          refine tk (i := 25) (oi := ⟨some 71, .binOp .eql 9 (.tmp 69) (.tmp 70) 9, 4, "stext.go:265", #[⟨23, .data⟩, ⟨24, .data⟩, ⟨21, .guard⟩, { on := 27, ground := .gcOnly Go.Departure.lateStores }], some (21, true)⟩) rfl ?_; (try simp only [Act.put, List.setIfInBounds_toArray, List.set_cons_succ, List.set_cons_zero])
          refine tk (i := 26) (oi := ⟨some 72, .pick (.tmp 67) (.tmp 71) (.const (.bool false)), 4, "stext.go:265", #[⟨21, .data⟩, ⟨25, .data⟩, { on := 27, ground := .gcOnly Go.Departure.lateStores }], none⟩) rfl ?_; (try simp only [Act.put, List.setIfInBounds_toArray, List.set_cons_succ, List.set_cons_zero])
          refine wpAnyH_ready (rs := [27]) (by kernel_rfl) (by simp) ?_
          refine AllReadyH.cons (o := ⟨none, .store 42 (.tmp 2) (.tmp 46), 0, "stext.go:265", #[⟨0, .data⟩, ⟨23, .chain⟩, ⟨0, .phase⟩, { on := 1, ground := .textOnly Go.Departure.lateStores }, { on := 2, ground := .textOnly Go.Departure.lateStores }, { on := 3, ground := .textOnly Go.Departure.lateStores }, { on := 4, ground := .textOnly Go.Departure.lateStores }, { on := 5, ground := .textOnly Go.Departure.lateStores }, { on := 6, ground := .textOnly Go.Departure.lateStores }, { on := 7, ground := .textOnly Go.Departure.lateStores }, { on := 8, ground := .textOnly Go.Departure.lateStores }, { on := 9, ground := .textOnly Go.Departure.lateStores }, { on := 10, ground := .textOnly Go.Departure.lateStores }, { on := 11, ground := .textOnly Go.Departure.lateStores }, { on := 12, ground := .textOnly Go.Departure.lateStores }, { on := 13, ground := .textOnly Go.Departure.lateStores }, { on := 14, ground := .textOnly Go.Departure.lateStores }, { on := 15, ground := .textOnly Go.Departure.lateStores }, { on := 16, ground := .textOnly Go.Departure.lateStores }, { on := 17, ground := .textOnly Go.Departure.lateStores }, { on := 18, ground := .textOnly Go.Departure.lateStoresUnsure }, { on := 19, ground := .textOnly Go.Departure.lateStores }, { on := 20, ground := .textOnly Go.Departure.lateStores }, { on := 21, ground := .textOnly Go.Departure.lateStores }, { on := 22, ground := .textOnly Go.Departure.lateStores }, { on := 23, ground := .textOnly Go.Departure.lateStoresUnsure }, { on := 24, ground := .textOnly Go.Departure.lateStores }, { on := 25, ground := .textOnly Go.Departure.lateStores }, { on := 26, ground := .textOnly Go.Departure.lateStores }], none⟩) rfl (fun K hK => ?_) AllReadyH.nil
          (rw [if_pos (by rfl)]; refine wp_store_row 42 (.tmp 2) (.tmp 46) rfl w.heap.size #[.int .i64 k, .int .i64 v1, .slice A v2.length c, .slice B L0.length d, .int .i64 v4] rfl rfl 42 #[.int .i64 0, .int .i64 0, .slice none 0 0, .slice none 0 0, .int .i64 0] V5 info_send rfl (by simp [Value.oneCell']) ?_; have gS := setRow_grown w5 w.heap.size #[.int .i64 k, .int .i64 v1, .slice A v2.length c, .slice B L0.length d, .int .i64 v4]; have SS2 : (fun W' => W'.cell? ⟨Kx, 0, none⟩ = some (.int .i64 k) ∧ W'.cell? ⟨Kx, 1, none⟩ = some (.int .i64 v1) ∧ W'.cell? ⟨Kx, 2, none⟩ = some (.slice A v2.length c) ∧ W'.cell? ⟨Kx, 3, none⟩ = some (.slice B L0.length d) ∧ W'.cell? ⟨Kx, 4, none⟩ = some (.int .i64 v4) ∧ W'.cell? ⟨N, 0, none⟩ = some (.slice A1 0 c1) ∧ W'.cell? ⟨N, 1, none⟩ = some (.bool true)) (w5.setRow w.heap.size #[.int .i64 k, .int .i64 v1, .slice A v2.length c, .slice B L0.length d, .int .i64 v4]) := ⟨gS.cell d0 (by simp; omega), gS.cell d1 (by simp; omega), gS.cell d2 (by simp; omega), gS.cell d3 (by simp; omega), gS.cell d4 (by simp; omega), gS.cell d5 (by simp; omega), gS.cell d6 (by simp; omega)⟩; dsimp only at SS2)
          (try dsimp only)
          refine hK.out _ _ ?_ (fun hHeld2 => ?_)
          · first | trivial | ((try dsimp only); first | assumption | trivial | go_keep)
          clear hK K hHeld1
          (try simp only [Act.put, List.setIfInBounds_toArray, List.set_cons_succ, List.set_cons_zero])
          refine tk (i := 28) (oi := ⟨some 3, .assign (.tmp 72), 4, "stext.go:265", #[⟨26, .data⟩, ⟨27, .chain⟩, ⟨0, .phase⟩, ⟨1, .phase⟩, ⟨2, .phase⟩, ⟨3, .phase⟩, ⟨4, .phase⟩, ⟨5, .phase⟩, ⟨6, .phase⟩, ⟨7, .phase⟩, ⟨8, .phase⟩, ⟨9, .phase⟩, ⟨10, .phase⟩, ⟨11, .phase⟩, ⟨12, .phase⟩, ⟨13, .phase⟩, ⟨14, .phase⟩, ⟨15, .phase⟩, ⟨16, .phase⟩, ⟨17, .phase⟩, ⟨18, .phase⟩, ⟨19, .phase⟩, ⟨20, .phase⟩, ⟨21, .phase⟩, ⟨22, .phase⟩, ⟨23, .phase⟩, ⟨24, .phase⟩, ⟨25, .phase⟩, ⟨26, .phase⟩, ⟨27, .phase⟩], none⟩) rfl ?_; (try simp only [Act.put, List.setIfInBounds_toArray, List.set_cons_succ, List.set_cons_zero])
          refine wpAnyH_done (by kernel_rfl) ?_ _
          (try dsimp only)
          repeat (first | go_values | go_skip | go_guarded | go_step | go_upon)
          have fin := endFin SX.out U5.out #[.int .i64 k, .int .i64 v1, .slice A v2.length c, .slice B L0.length d, .int .i64 v4]
          refine bodyPost_ret (results_cell_row_tmp rfl _ _ w.heap.size _ #[.int .i64 k, .int .i64 v1, .slice A v2.length c, .slice B L0.length d, .int .i64 v4] (0, 0) _ rfl (setRow_heap w5 w.heap.size #[.int .i64 0, .int .i64 0, .slice none 0 0, .slice none 0 0, .int .i64 0] _ _ (0, 0) V5) Tryz.underlying42 rfl (by kernel_rfl)) rfl ?_
          rw [HLe.out] at fin ⊢
          obtain rfl := HR.out
          exact ⟨⟨A, c, B, d, rfl, fin.2.1, fin.2.2⟩, fin.1⟩
      · have x0 : ¬ ((rl4.length : Int) + 1 = 0) := by omega
        have HR : Hid (R = ((⟨k, v1, v2, es, v4⟩ : St.Fin), false)) := Lib.hid (by rw [HR.out, hk0]; rfl)
        simp only [List.length_cons] at c5_
        clear hk0
        have SS : (fun W' => W'.cell? ⟨Kx, 0, none⟩ = some (.int .i64 k) ∧ W'.cell? ⟨Kx, 1, none⟩ = some (.int .i64 v1) ∧ W'.cell? ⟨Kx, 2, none⟩ = some (.slice A v2.length c) ∧ W'.cell? ⟨Kx, 3, none⟩ = some (.slice B L0.length d) ∧ W'.cell? ⟨Kx, 4, none⟩ = some (.int .i64 v4) ∧ W'.cell? ⟨N, 0, none⟩ = some (.slice A1 (rl4.length + 1) c1) ∧ W'.cell? ⟨N, 1, none⟩ = some (.bool true)) (World.drew W) := ⟨c0_, c1_, c2_, c3_, c4_, c5_, c6_⟩
        dsimp only at SS
        have SSc := SS
        obtain ⟨t0, t1, t2, t3, t4, t5, t6⟩ := SSc
        have VD : (World.drew W).heap[w.heap.size]? = some (.cells #[.int .i64 0, .int .i64 0, .slice none 0 0, .slice none 0 0, .int .i64 0] 42 (0, 0)) := VR
        refine wp_region_held_drew (S := (fun W' => W'.cell? ⟨Kx, 0, none⟩ = some (.int .i64 k) ∧ W'.cell? ⟨Kx, 1, none⟩ = some (.int .i64 v1) ∧ W'.cell? ⟨Kx, 2, none⟩ = some (.slice A v2.length c) ∧ W'.cell? ⟨Kx, 3, none⟩ = some (.slice B L0.length d) ∧ W'.cell? ⟨Kx, 4, none⟩ = some (.int .i64 v4) ∧ W'.cell? ⟨N, 0, none⟩ = some (.slice A1 (rl4.length + 1) c1) ∧ W'.cell? ⟨N, 1, none⟩ = some (.bool true))) (by kernel_rfl) ?_ (fun hHeld0 => ?_)
        · first | assumption | go_keep
        refine tk (i := 0) (oi := ⟨some 46, .load 42 (.tmp 6), 42, "stext.go:265", #[], none⟩) rfl ?_; (try simp only [Act.put, List.setIfInBounds_toArray, List.set_cons_succ, List.set_cons_zero])
        refine tk (i := 1) (oi := ⟨some 47, .move (.tmp 5), 4, "stext.go:265", #[], none⟩) rfl ?_; (try simp only [Act.put, List.setIfInBounds_toArray, List.set_cons_succ, List.set_cons_zero])
        refine tk (i := 2) (oi := ⟨some 48, .move (.tmp 47), 4, "stext.go:265", #[⟨1, .data⟩], none⟩) rfl ?_; (try simp only [Act.put, List.setIfInBounds_toArray, List.set_cons_succ, List.set_cons_zero])
        refine tk (i := 3) (oi := ⟨some 49, .move (.tmp 4), 130, "stext.go:265", #[⟨2, .guard⟩], some (2, true)⟩) rfl ?_; (try simp only [Act.put, List.setIfInBounds_toArray, List.set_cons_succ, List.set_cons_zero])
        refine tk (i := 4) (oi := ⟨some 50, .nilCheck (.tmp 49), 0, "stext.go:265", #[⟨3, .data⟩, ⟨2, .guard⟩], some (2, true)⟩) rfl ?_; (try simp only [Act.put, List.setIfInBounds_toArray, List.set_cons_succ, List.set_cons_zero])
        refine tk (i := 5) (oi := ⟨some 51, .fieldAddr 132 (.tmp 50) 1, 0, "stext.go:265", #[⟨4, .data⟩, ⟨2, .guard⟩], some (2, true)⟩) rfl ?_; (try simp only [Act.put, List.setIfInBounds_toArray, List.set_cons_succ, List.set_cons_zero])
        refine tk (i := 6) (oi := ⟨some 52, .load 4 (.tmp 51), 4, "stext.go:265", #[⟨5, .data⟩, ⟨2, .guard⟩], some (2, true)⟩) rfl ?_; (try simp only [Act.put, List.setIfInBounds_toArray, List.set_cons_succ, List.set_cons_zero])
        refine tk (i := 7) (oi := ⟨some 53, .pick (.tmp 48) (.tmp 52) (.const (.bool false)), 4, "stext.go:265", #[⟨2, .data⟩, ⟨6, .data⟩], none⟩) rfl ?_; (try simp only [Act.put, List.setIfInBounds_toArray, List.set_cons_succ, List.set_cons_zero])
        refine tk (i := 8) (oi := ⟨some 54, .move (.tmp 53), 4, "stext.go:265", #[⟨7, .data⟩, ⟨2, .chain⟩], none⟩) rfl ?_; (try simp only [Act.put, List.setIfInBounds_toArray, List.set_cons_succ, List.set_cons_zero])
        refine tk (i := 9) (oi := ⟨some 55, .fieldAddr 42 (.tmp 6) 0, 0, "stext.go:265", #[⟨8, .guard⟩], some (8, true)⟩) rfl ?_; (try simp only [Act.put, List.setIfInBounds_toArray, List.set_cons_succ, List.set_cons_zero])
        refine tk (i := 10) (oi := ⟨some 56, .load 3 (.tmp 55), 3, "stext.go:265", #[⟨9, .data⟩, ⟨8, .guard⟩], some (8, true)⟩) rfl ?_; (try simp only [Act.put, List.setIfInBounds_toArray, List.set_cons_succ, List.set_cons_zero])
        refine tk (i := 11) (oi := ⟨some 57, .binOp .geq 3 (.tmp 56) (.const (.int .i64 0)) 3, 4, "stext.go:265", #[⟨10, .data⟩, ⟨8, .guard⟩], some (8, true)⟩) rfl ?_; (try simp only [Act.put, List.setIfInBounds_toArray, List.set_cons_succ, List.set_cons_zero])
        refine tk (i := 12) (oi := ⟨some 58, .pick (.tmp 54) (.tmp 57) (.const (.bool false)), 4, "stext.go:265", #[⟨8, .data⟩, ⟨11, .data⟩], none⟩) rfl ?_; (try simp only [Act.put, List.setIfInBounds_toArray, List.set_cons_succ, List.set_cons_zero])
        refine tk (i := 13) (oi := ⟨some 59, .move (.tmp 58), 4, "stext.go:265", #[⟨12, .data⟩, ⟨8, .chain⟩], none⟩) rfl ?_; (try simp only [Act.put, List.setIfInBounds_toArray, List.set_cons_succ, List.set_cons_zero])
        refine tk (i := 14) (oi := ⟨some 60, .move (.tmp 4), 130, "stext.go:265", #[⟨13, .guard⟩], some (13, true)⟩) rfl ?_; (try simp only [Act.put, List.setIfInBounds_toArray, List.set_cons_succ, List.set_cons_zero])
        refine tk (i := 15) (oi := ⟨some 61, .nilCheck (.tmp 60), 0, "stext.go:265", #[⟨14, .data⟩, ⟨13, .guard⟩], some (13, true)⟩) rfl ?_; (try simp only [Act.put, List.setIfInBounds_toArray, List.set_cons_succ, List.set_cons_zero])
        refine tk (i := 16) (oi := ⟨some 62, .fieldAddr 132 (.tmp 61) 0, 0, "stext.go:265", #[⟨15, .data⟩, ⟨13, .guard⟩], some (13, true)⟩) rfl ?_; (try simp only [Act.put, List.setIfInBounds_toArray, List.set_cons_succ, List.set_cons_zero])
        refine tk (i := 17) (oi := ⟨some 63, .load 54 (.tmp 62), 54, "stext.go:265", #[⟨16, .data⟩, ⟨13, .guard⟩], some (13, true)⟩) rfl ?_; (try simp only [Act.put, List.setIfInBounds_toArray, List.set_cons_succ, List.set_cons_zero])
        refine tk (i := 18) (oi := ⟨some 64, .call { callee := .builtin .len, args := #[.tmp 63], argTypes := #[54] }, 3, "stext.go:265", #[⟨17, .data⟩, ⟨13, .guard⟩], some (13, true)⟩) rfl ?_; (try simp only [Act.put, List.setIfInBounds_toArray, List.set_cons_succ, List.set_cons_zero])
        refine tk (i := 19) (oi := ⟨some 65, .binOp .eql 3 (.tmp 64) (.const (.int .i64 0)) 3, 4, "stext.go:265", #[⟨18, .data⟩, ⟨13, .guard⟩], some (13, true)⟩) rfl ?_; (try simp only [Act.put, List.setIfInBounds_toArray, List.set_cons_succ, List.set_cons_zero])
        refine tk (i := 20) (oi := ⟨some 66, .pick (.tmp 59) (.tmp 65) (.const (.bool false)), 4, "stext.go:265", #[⟨13, .data⟩, ⟨19, .data⟩], none⟩) rfl ?_; (try simp only [Act.put, List.setIfInBounds_toArray, List.set_cons_succ, List.set_cons_zero])
        refine tk (i := 21) (oi := ⟨some 67, .move (.tmp 66), 4, "stext.go:265", #[⟨20, .data⟩, ⟨13, .chain⟩], none⟩) rfl ?_; (try simp only [Act.put, List.setIfInBounds_toArray, List.set_cons_succ, List.set_cons_zero])
        refine tkN (i := 22) (oi := ⟨some 68, .load 42 (.tmp 6), 42, "stext.go:265", #[⟨21, .guard⟩], some (21, true)⟩) rfl ?_; (try simp only [Act.put, List.setIfInBounds_toArray, List.set_cons_succ, List.set_cons_zero])
        refine tkN (i := 23) (oi := ⟨some 69, .call { callee := .value (.func 21), args := #[.tmp 68], argTypes := #[42] }, 9, "stext.go:265", #[⟨22, .data⟩, ⟨21, .chain⟩, ⟨21, .guard⟩], some (21, true)⟩) rfl ?_; (try simp only [Act.put, List.setIfInBounds_toArray, List.set_cons_succ, List.set_cons_zero])
        refine tkN (i := 24) (oi := ⟨some 70, .move (.tmp 0), 9, "stext.go:265", #[⟨21, .guard⟩, { on := 27, ground := .gcOnly Go.Departure.lateStores }], some (21, true)⟩) rfl ?_; (try simp only [Act.put, List.setIfInBounds_toArray, List.set_cons_succ, List.set_cons_zero])
        refine tkN (i := 25) (oi := ⟨some 71, .binOp .eql 9 (.tmp 69) (.tmp 70) 9, 4, "stext.go:265", #[⟨23, .data⟩, ⟨24, .data⟩, ⟨21, .guard⟩, { on := 27, ground := .gcOnly Go.Departure.lateStores }], some (21, true)⟩) rfl ?_; (try simp only [Act.put, List.setIfInBounds_toArray, List.set_cons_succ, List.set_cons_zero])
        refine tk (i := 26) (oi := ⟨some 72, .pick (.tmp 67) (.tmp 71) (.const (.bool false)), 4, "stext.go:265", #[⟨21, .data⟩, ⟨25, .data⟩, { on := 27, ground := .gcOnly Go.Departure.lateStores }], none⟩) rfl ?_; (try simp only [Act.put, List.setIfInBounds_toArray, List.set_cons_succ, List.set_cons_zero])
        refine wpAnyH_ready (rs := [27]) (by kernel_rfl) (by simp) ?_
        refine AllReadyH.cons (o := ⟨none, .store 42 (.tmp 2) (.tmp 46), 0, "stext.go:265", #[⟨0, .data⟩, ⟨23, .chain⟩, ⟨0, .phase⟩, { on := 1, ground := .textOnly Go.Departure.lateStores }, { on := 2, ground := .textOnly Go.Departure.lateStores }, { on := 3, ground := .textOnly Go.Departure.lateStores }, { on := 4, ground := .textOnly Go.Departure.lateStores }, { on := 5, ground := .textOnly Go.Departure.lateStores }, { on := 6, ground := .textOnly Go.Departure.lateStores }, { on := 7, ground := .textOnly Go.Departure.lateStores }, { on := 8, ground := .textOnly Go.Departure.lateStores }, { on := 9, ground := .textOnly Go.Departure.lateStores }, { on := 10, ground := .textOnly Go.Departure.lateStores }, { on := 11, ground := .textOnly Go.Departure.lateStores }, { on := 12, ground := .textOnly Go.Departure.lateStores }, { on := 13, ground := .textOnly Go.Departure.lateStores }, { on := 14, ground := .textOnly Go.Departure.lateStores }, { on := 15, ground := .textOnly Go.Departure.lateStores }, { on := 16, ground := .textOnly Go.Departure.lateStores }, { on := 17, ground := .textOnly Go.Departure.lateStores }, { on := 18, ground := .textOnly Go.Departure.lateStoresUnsure }, { on := 19, ground := .textOnly Go.Departure.lateStores }, { on := 20, ground := .textOnly Go.Departure.lateStores }, { on := 21, ground := .textOnly Go.Departure.lateStores }, { on := 22, ground := .textOnly Go.Departure.lateStores }, { on := 23, ground := .textOnly Go.Departure.lateStoresUnsure }, { on := 24, ground := .textOnly Go.Departure.lateStores }, { on := 25, ground := .textOnly Go.Departure.lateStores }, { on := 26, ground := .textOnly Go.Departure.lateStores }], none⟩) rfl (fun K hK => ?_) AllReadyH.nil
        (rw [if_pos (by rfl)]; refine wp_store_row 42 (.tmp 2) (.tmp 46) rfl w.heap.size #[.int .i64 k, .int .i64 v1, .slice A v2.length c, .slice B L0.length d, .int .i64 v4] rfl rfl 42 #[.int .i64 0, .int .i64 0, .slice none 0 0, .slice none 0 0, .int .i64 0] VD info_send rfl (by simp [Value.oneCell']) ?_; have gS := setRow_grown (World.drew W) w.heap.size #[.int .i64 k, .int .i64 v1, .slice A v2.length c, .slice B L0.length d, .int .i64 v4]; have SS2 : (fun W' => W'.cell? ⟨Kx, 0, none⟩ = some (.int .i64 k) ∧ W'.cell? ⟨Kx, 1, none⟩ = some (.int .i64 v1) ∧ W'.cell? ⟨Kx, 2, none⟩ = some (.slice A v2.length c) ∧ W'.cell? ⟨Kx, 3, none⟩ = some (.slice B L0.length d) ∧ W'.cell? ⟨Kx, 4, none⟩ = some (.int .i64 v4) ∧ W'.cell? ⟨N, 0, none⟩ = some (.slice A1 (rl4.length + 1) c1) ∧ W'.cell? ⟨N, 1, none⟩ = some (.bool true)) ((World.drew W).setRow w.heap.size #[.int .i64 k, .int .i64 v1, .slice A v2.length c, .slice B L0.length d, .int .i64 v4]) := ⟨gS.cell t0 (by simp; omega), gS.cell t1 (by simp; omega), gS.cell t2 (by simp; omega), gS.cell t3 (by simp; omega), gS.cell t4 (by simp; omega), gS.cell t5 (by simp; omega), gS.cell t6 (by simp; omega)⟩; dsimp only at SS2)
        (try dsimp only)
        refine hK.out _ _ ?_ (fun hHeld1 => ?_)
        · first | trivial | ((try dsimp only); first | assumption | trivial | go_keep)
        clear hK K hHeld0
        (try simp only [Act.put, List.setIfInBounds_toArray, List.set_cons_succ, List.set_cons_zero])
        refine tk (i := 28) (oi := ⟨some 3, .assign (.tmp 72), 4, "stext.go:265", #[⟨26, .data⟩, ⟨27, .chain⟩, ⟨0, .phase⟩, ⟨1, .phase⟩, ⟨2, .phase⟩, ⟨3, .phase⟩, ⟨4, .phase⟩, ⟨5, .phase⟩, ⟨6, .phase⟩, ⟨7, .phase⟩, ⟨8, .phase⟩, ⟨9, .phase⟩, ⟨10, .phase⟩, ⟨11, .phase⟩, ⟨12, .phase⟩, ⟨13, .phase⟩, ⟨14, .phase⟩, ⟨15, .phase⟩, ⟨16, .phase⟩, ⟨17, .phase⟩, ⟨18, .phase⟩, ⟨19, .phase⟩, ⟨20, .phase⟩, ⟨21, .phase⟩, ⟨22, .phase⟩, ⟨23, .phase⟩, ⟨24, .phase⟩, ⟨25, .phase⟩, ⟨26, .phase⟩, ⟨27, .phase⟩], none⟩) rfl ?_; (try simp only [Act.put, List.setIfInBounds_toArray, List.set_cons_succ, List.set_cons_zero])
        refine wpAnyH_done (by kernel_rfl) ?_ _
        (try dsimp only)
        repeat (first | go_values | go_skip | go_guarded | go_step | go_upon)
        have fin := endFin SX.out (below_drewN W 1) #[.int .i64 k, .int .i64 v1, .slice A v2.length c, .slice B L0.length d, .int .i64 v4]
        refine bodyPost_ret (results_cell_row_tmp rfl _ _ w.heap.size _ #[.int .i64 k, .int .i64 v1, .slice A v2.length c, .slice B L0.length d, .int .i64 v4] (0, 0) _ rfl (setRow_heap (World.drew W) w.heap.size #[.int .i64 0, .int .i64 0, .slice none 0 0, .slice none 0 0, .int .i64 0] _ _ (0, 0) VD) Tryz.underlying42 rfl (by kernel_rfl)) rfl ?_
        rw [HLe.out] at fin ⊢
        obtain rfl := HR.out
        exact ⟨⟨A, c, B, d, rfl, fin.2.1, fin.2.2⟩, fin.1⟩

    · have hrl := HFT.out rfl
      have hrl2 := congrArg List.length hrl
      simp only [List.length_cons] at hrl2
      obtain ⟨f, rfl⟩ : ∃ g, f = g + 1 := ⟨f - 1, by omega⟩
      have hE := HE1.out f rfl
      clear HFF HFT HE0 HE1 hrl HIN HOK
      have hZ := HZ.out
      rw [hE] at hZ
      unfold St.numO St.numsO at hZ
      dsimp only at hZ
      have HNum := Lib.hid (rdnum_any N N tl tok w W1 HG.out S1.bel (by have := S1.lo; have := S1.l1; omega) S1.rd)
      obtain ⟨⟨q, qb⟩, hq⟩ : ∃ x, pint (tl.headD []) = x := ⟨_, rfl⟩
      rw [hq] at HNum hZ
      have htt := St.tail_le tl
      obtain ⟨tt, htt2⟩ : ∃ x, tl.tail = x := ⟨_, rfl⟩
      rw [htt2] at HNum hZ htt
      dsimp only at HNum hZ
      obtain ⟨ok2, hok2⟩ : ∃ x, (tok && qb) = x := ⟨_, rfl⟩
      rw [hok2] at HNum hZ
      clear hq htt2 hok2 hE HZ
      have hns := St.numsGo_sum tt ok2
      have HNs := Lib.hid (fun W (b : Below w.heap.size w W) (h : RAt W N N tt ok2) => rdnums_any N N tt ok2 w W HG.out b (by have := S1.lo; have := S1.l1; omega) h)
      obtain ⟨⟨n, ⟨nl, nok⟩⟩, hn⟩ : ∃ x, St.numsGo tt ok2 = x := ⟨_, rfl⟩
      rw [hn] at HNs hZ hns
      dsimp only at HNs hZ hns
      have HZ := Lib.hid hZ
      clear hZ hn
      go_upto_region 10 with (go_at_call 98; refine HNum.out.mono ?_; rintro e W2 ⟨rfl, r6, g6⟩; have S2 := S1.step (r' := ⟨_, _⟩) r6 g6)
      clear S1 r6 g6 HNum
      have SD := S2.below (below_drewN W2 1)
      clear S2
      have SD : EndAt w (World.drew W2) w.heap.size N Kx ⟨k, v1, v2, es, 0⟩ ⟨tt, ok2⟩ A0 c0 B0 d0 L0 := SD
      have c3 : (World.drew W2).cell? ⟨Kx, 3, none⟩ = some (.slice B0 L0.length d0) := SD.cur.cells 3
      have c3w : W2.cell? ⟨Kx, 3, none⟩ = some (.slice B0 L0.length d0) := c3
      have HLe : Hid (L0.length = es.length) := Lib.hid (by have := congrArg List.length SD.ed; simpa using this)
      have HNs2 := Lib.hid (HNs.out _ SD.bel SD.rd)
      clear HNs
      refine wp_region_held_drew (S := (fun _ => True)) (by kernel_rfl) ?_ (fun hHeld0 => ?_)
      · first | assumption | go_keep
      refine tk (i := 0) (oi := ⟨some 32, .fieldAddr 42 (.tmp 6) 3, 0, "stext.go:260", #[], none⟩) rfl ?_; (try simp only [Act.put, List.setIfInBounds_toArray, List.set_cons_succ, List.set_cons_zero])
      refine tk (i := 2) (oi := ⟨some 34, .move (.tmp 7), 3, "stext.go:260", #[], none⟩) rfl ?_; (try simp only [Act.put, List.setIfInBounds_toArray, List.set_cons_succ, List.set_cons_zero])
      refine tk (i := 3) (oi := ⟨some 35, .move (.tmp 4), 130, "stext.go:260", #[], none⟩) rfl ?_; (try simp only [Act.put, List.setIfInBounds_toArray, List.set_cons_succ, List.set_cons_zero])
      refine wpAnyH_ready (rs := [1, 4]) (by kernel_rfl) (by simp) ?_
      refine (AllReadyH.cons (o := ⟨some 33, .load 39 (.tmp 32), 39, "stext.go:260", #[⟨0, .data⟩], none⟩) rfl (fun K hK => ?_) (AllReadyH.cons (o := ⟨some 36, .call { callee := .value (.func 95), args := #[.tmp 35], argTypes := #[130] }, 37, "stext.go:260", #[⟨3, .data⟩], none⟩) rfl (fun K hK => ?_) AllReadyH.nil))
      · skip
        go_simp
        skip
        (try dsimp only)
        refine hK.out _ _ ?_ (fun hHeld1 => ?_)
        · first | trivial | ((try dsimp only); first | assumption | trivial | go_keep)
        clear hK K hHeld0
        (try simp only [Act.put, List.setIfInBounds_toArray, List.set_cons_succ, List.set_cons_zero])
        refine wpAnyH_ready (rs := [4]) (by kernel_rfl) (by simp) ?_
        refine (AllReadyH.cons (o := ⟨some 36, .call { callee := .value (.func 95), args := #[.tmp 35], argTypes := #[130] }, 37, "stext.go:260", #[⟨3, .data⟩], none⟩) rfl (fun K hK => ?_) AllReadyH.nil)
        go_simp
        (refine HNs2.out.mono ?_; rintro e w3 ⟨A, c, rfl, own, r3, g3⟩; have S3 := SD.step (r' := ⟨_, _⟩) r3 g3; have hrow := Row.own own SD.ltx; have c3' : w3.cell? ⟨Kx, 3, none⟩ = some (.slice B0 L0.length d0) := S3.cur.cells 3; clear own r3 g3)
        (try dsimp only)
        refine hK.out _ _ ?_ (fun hHeld2 => ?_)
        · first | trivial | ((try dsimp only); first | assumption | trivial | go_keep)
        clear hK K hHeld1
        (try simp only [Act.put, List.setIfInBounds_toArray, List.set_cons_succ, List.set_cons_zero])
        refine tk (i := 5) (oi := ⟨some 37, .build 50 #[(0, .tmp 34), (1, .tmp 36)], 50, "stext.go:260", #[⟨2, .data⟩, ⟨4, .data⟩], none⟩) rfl ?_; (try simp only [Act.put, List.setIfInBounds_toArray, List.set_cons_succ, List.set_cons_zero])
        refine wpAnyH_ready (rs := [6]) (by kernel_rfl) (by simp) ?_
        refine (AllReadyH.cons (o := ⟨some 38, .buildSlice 39 1 #[(0, .tmp 37)], 39, "stext.go:260", #[⟨5, .data⟩], none⟩) rfl (fun K hK => ?_) AllReadyH.nil)
        go_simp
        (have S4 := S3.below ((Below.refl _ _).alloc (Nat.le_refl _) (.cells #[.int .i64 q, .slice A n.length c] 50)); have hrow4 := hrow.below ((Below.refl _ _).alloc (Nat.le_refl _) (.cells #[.int .i64 q, .slice A n.length c] 50)); have c3'' : (w3.alloc (.cells #[.int .i64 q, .slice A n.length c] 50)).cell? ⟨Kx, 3, none⟩ = some (.slice B0 L0.length d0) := S4.cur.cells 3)
        (try dsimp only)
        refine hK.out _ _ ?_ (fun hHeld3 => ?_)
        · first | trivial | ((try dsimp only); first | assumption | trivial | go_keep)
        clear hK K hHeld2
        (try simp only [Act.put, List.setIfInBounds_toArray, List.set_cons_succ, List.set_cons_zero])
        refine wpAnyH_ready (rs := [7]) (by kernel_rfl) (by simp) ?_
        refine (AllReadyH.cons (o := ⟨some 39, .call { callee := .builtin .append, args := #[.tmp 33, .tmp 38], argTypes := #[39, 39] }, 39, "stext.go:260", #[⟨1, .data⟩, ⟨6, .data⟩, ⟨4, .chain⟩], none⟩) rfl (fun K hK => ?_) AllReadyH.nil)
        (refine step_app Tryz.underlying39 hi0 hz0 hz1 hz2 rfl (by omega) encE_len encE_one _ rfl (.tmp 33) (.tmp 38) rfl (Kx + 1) (.slice B0 L0.length d0) L0.length L0 (by rfl) S4.own [((⟨q, n⟩ : St.Edge), A, c)] 1 1 _ rfl (by rfl) (one_edge w3 ((⟨q, n⟩ : St.Edge), A, c)) (by have := HLe.out; omega) (by omega) (by have := S4.ltx; omega) ?_; intro A' c' w5 own5 hg5; have V5 := var_grown S4.cur S4.own (by decide) hg5; have S5 := S4.app (p := ((⟨q, n⟩ : St.Edge), A, c)) hrow4 own5 hg5; have e3 : w5.cell? ⟨Kx, 3, none⟩ = some (.slice B0 L0.length d0) := V5.cells 3; have z3 := V5.froz 3; have l3 := V5.lt)
        (try dsimp only)
        refine hK.out _ _ ?_ (fun hHeld4 => ?_)
        · first | trivial | ((try dsimp only); first | assumption | trivial | go_keep)
        clear hK K hHeld3
        (try simp only [Act.put, List.setIfInBounds_toArray, List.set_cons_succ, List.set_cons_zero])
        refine tk (i := 8) (oi := ⟨some 40, .fieldAddr 42 (.tmp 6) 3, 0, "stext.go:260", #[⟨0, .phase⟩, ⟨1, .phase⟩, ⟨2, .phase⟩, ⟨3, .phase⟩, ⟨4, .phase⟩, ⟨5, .phase⟩, ⟨6, .phase⟩, ⟨7, .phase⟩], none⟩) rfl ?_; (try simp only [Act.put, List.setIfInBounds_toArray, List.set_cons_succ, List.set_cons_zero])
        refine wpAnyH_ready (rs := [9]) (by kernel_rfl) (by simp) ?_
        refine (AllReadyH.cons (o := ⟨none, .store 39 (.tmp 40) (.tmp 39), 0, "stext.go:260", #[⟨8, .data⟩, ⟨7, .data⟩, ⟨7, .chain⟩, ⟨0, .phase⟩, ⟨1, .phase⟩, ⟨2, .phase⟩, ⟨3, .phase⟩, ⟨4, .phase⟩, ⟨5, .phase⟩, ⟨6, .phase⟩, ⟨7, .phase⟩], none⟩) rfl (fun K hK => ?_) AllReadyH.nil)
        go_simp
        skip
        (try dsimp only)
        refine hK.out _ _ ?_ (fun hHeld5 => ?_)
        · first | trivial | ((try dsimp only); first | assumption | trivial | go_keep)
        clear hK K hHeld4
        (try simp only [Act.put, List.setIfInBounds_toArray, List.set_cons_succ, List.set_cons_zero])
        refine wpAnyH_done (by kernel_rfl) ?_ _
        (try dsimp only)
        repeat (first | go_values | go_skip | go_guarded | go_step | go_upon)
        go_roundw
        case rel => exact ⟨es ++ [⟨q, n⟩], nl, nok, f, Lib.hid S5.st, by omega, by simp; omega, Lib.hid (by rw [HZ.out]; simp)⟩
        case measure =>
          obtain ⟨aA, ac, aV, -⟩ := S5.rd.ex
          have am := aV.cells 0
          rw [HCM.out]
          show lenOf (((w5.setCell ⟨Kx, 3, none⟩ _).cell? ⟨N, 0, none⟩).getD undef) < _
          rw [am]
          simp [lenOf]; omega
      · skip
        go_simp
        (refine HNs2.out.mono ?_; rintro e w3 ⟨A, c, rfl, own, r3, g3⟩; have S3 := SD.step (r' := ⟨_, _⟩) r3 g3; have hrow := Row.own own SD.ltx; have c3' : w3.cell? ⟨Kx, 3, none⟩ = some (.slice B0 L0.length d0) := S3.cur.cells 3; clear own r3 g3)
        (try dsimp only)
        refine hK.out _ _ ?_ (fun hHeld1 => ?_)
        · first | trivial | ((try dsimp only); first | assumption | trivial | go_keep)
        clear hK K hHeld0
        (try simp only [Act.put, List.setIfInBounds_toArray, List.set_cons_succ, List.set_cons_zero])
        refine tk (i := 5) (oi := ⟨some 37, .build 50 #[(0, .tmp 34), (1, .tmp 36)], 50, "stext.go:260", #[⟨2, .data⟩, ⟨4, .data⟩], none⟩) rfl ?_; (try simp only [Act.put, List.setIfInBounds_toArray, List.set_cons_succ, List.set_cons_zero])
        refine wpAnyH_ready (rs := [1, 6]) (by kernel_rfl) (by simp) ?_
        refine (AllReadyH.cons (o := ⟨some 33, .load 39 (.tmp 32), 39, "stext.go:260", #[⟨0, .data⟩], none⟩) rfl (fun K hK => ?_) (AllReadyH.cons (o := ⟨some 38, .buildSlice 39 1 #[(0, .tmp 37)], 39, "stext.go:260", #[⟨5, .data⟩], none⟩) rfl (fun K hK => ?_) AllReadyH.nil))
        · skip
          go_simp
          skip
          (try dsimp only)
          refine hK.out _ _ ?_ (fun hHeld2 => ?_)
          · first | trivial | ((try dsimp only); first | assumption | trivial | go_keep)
          clear hK K hHeld1
          (try simp only [Act.put, List.setIfInBounds_toArray, List.set_cons_succ, List.set_cons_zero])
          refine wpAnyH_ready (rs := [6]) (by kernel_rfl) (by simp) ?_
          refine (AllReadyH.cons (o := ⟨some 38, .buildSlice 39 1 #[(0, .tmp 37)], 39, "stext.go:260", #[⟨5, .data⟩], none⟩) rfl (fun K hK => ?_) AllReadyH.nil)
          go_simp
          (have S4 := S3.below ((Below.refl _ _).alloc (Nat.le_refl _) (.cells #[.int .i64 q, .slice A n.length c] 50)); have hrow4 := hrow.below ((Below.refl _ _).alloc (Nat.le_refl _) (.cells #[.int .i64 q, .slice A n.length c] 50)); have c3'' : (w3.alloc (.cells #[.int .i64 q, .slice A n.length c] 50)).cell? ⟨Kx, 3, none⟩ = some (.slice B0 L0.length d0) := S4.cur.cells 3)
          (try dsimp only)
          refine hK.out _ _ ?_ (fun hHeld3 => ?_)
          · first | trivial | ((try dsimp only); first | assumption | trivial | go_keep)
          clear hK K hHeld2
          (try simp only [Act.put, List.setIfInBounds_toArray, List.set_cons_succ, List.set_cons_zero])
          refine wpAnyH_ready (rs := [7]) (by kernel_rfl) (by simp) ?_
          refine (AllReadyH.cons (o := ⟨some 39, .call { callee := .builtin .append, args := #[.tmp 33, .tmp 38], argTypes := #[39, 39] }, 39, "stext.go:260", #[⟨1, .data⟩, ⟨6, .data⟩, ⟨4, .chain⟩], none⟩) rfl (fun K hK => ?_) AllReadyH.nil)
          (refine step_app Tryz.underlying39 hi0 hz0 hz1 hz2 rfl (by omega) encE_len encE_one _ rfl (.tmp 33) (.tmp 38) rfl (Kx + 1) (.slice B0 L0.length d0) L0.length L0 (by rfl) S4.own [((⟨q, n⟩ : St.Edge), A, c)] 1 1 _ rfl (by rfl) (one_edge w3 ((⟨q, n⟩ : St.Edge), A, c)) (by have := HLe.out; omega) (by omega) (by have := S4.ltx; omega) ?_; intro A' c' w5 own5 hg5; have V5 := var_grown S4.cur S4.own (by decide) hg5; have S5 := S4.app (p := ((⟨q, n⟩ : St.Edge), A, c)) hrow4 own5 hg5; have e3 : w5.cell? ⟨Kx, 3, none⟩ = some (.slice B0 L0.length d0) := V5.cells 3; have z3 := V5.froz 3; have l3 := V5.lt)
          (try dsimp only)
          refine hK.out _ _ ?_ (fun hHeld4 => ?_)
          · first | trivial | ((try dsimp only); first | assumption | trivial | go_keep)
          clear hK K hHeld3
          (try simp only [Act.put, List.setIfInBounds_toArray, List.set_cons_succ, List.set_cons_zero])
          refine tk (i := 8) (oi := ⟨some 40, .fieldAddr 42 (.tmp 6) 3, 0, "stext.go:260", #[⟨0, .phase⟩, ⟨1, .phase⟩, ⟨2, .phase⟩, ⟨3, .phase⟩, ⟨4, .phase⟩, ⟨5, .phase⟩, ⟨6, .phase⟩, ⟨7, .phase⟩], none⟩) rfl ?_; (try simp only [Act.put, List.setIfInBounds_toArray, List.set_cons_succ, List.set_cons_zero])
          refine wpAnyH_ready (rs := [9]) (by kernel_rfl) (by simp) ?_
          refine (AllReadyH.cons (o := ⟨none, .store 39 (.tmp 40) (.tmp 39), 0, "stext.go:260", #[⟨8, .data⟩, ⟨7, .data⟩, ⟨7, .chain⟩, ⟨0, .phase⟩, ⟨1, .phase⟩, ⟨2, .phase⟩, ⟨3, .phase⟩, ⟨4, .phase⟩, ⟨5, .phase⟩, ⟨6, .phase⟩, ⟨7, .phase⟩], none⟩) rfl (fun K hK => ?_) AllReadyH.nil)
          go_simp
          skip
          (try dsimp only)
          refine hK.out _ _ ?_ (fun hHeld5 => ?_)
          · first | trivial | ((try dsimp only); first | assumption | trivial | go_keep)
          clear hK K hHeld4
          (try simp only [Act.put, List.setIfInBounds_toArray, List.set_cons_succ, List.set_cons_zero])
          refine wpAnyH_done (by kernel_rfl) ?_ _
          (try dsimp only)
          repeat (first | go_values | go_skip | go_guarded | go_step | go_upon)
          go_roundw
          case rel => exact ⟨es ++ [⟨q, n⟩], nl, nok, f, Lib.hid S5.st, by omega, by simp; omega, Lib.hid (by rw [HZ.out]; simp)⟩
          case measure =>
            obtain ⟨aA, ac, aV, -⟩ := S5.rd.ex
            have am := aV.cells 0
            rw [HCM.out]
            show lenOf (((w5.setCell ⟨Kx, 3, none⟩ _).cell? ⟨N, 0, none⟩).getD undef) < _
            rw [am]
            simp [lenOf]; omega
        · skip
          go_simp
          (have S4 := S3.below ((Below.refl _ _).alloc (Nat.le_refl _) (.cells #[.int .i64 q, .slice A n.length c] 50)); have hrow4 := hrow.below ((Below.refl _ _).alloc (Nat.le_refl _) (.cells #[.int .i64 q, .slice A n.length c] 50)); have c3'' : (w3.alloc (.cells #[.int .i64 q, .slice A n.length c] 50)).cell? ⟨Kx, 3, none⟩ = some (.slice B0 L0.length d0) := S4.cur.cells 3)
          (try dsimp only)
          refine hK.out _ _ ?_ (fun hHeld2 => ?_)
          · first | trivial | ((try dsimp only); first | assumption | trivial | go_keep)
          clear hK K hHeld1
          (try simp only [Act.put, List.setIfInBounds_toArray, List.set_cons_succ, List.set_cons_zero])
          refine wpAnyH_ready (rs := [1]) (by kernel_rfl) (by simp) ?_
          refine (AllReadyH.cons (o := ⟨some 33, .load 39 (.tmp 32), 39, "stext.go:260", #[⟨0, .data⟩], none⟩) rfl (fun K hK => ?_) AllReadyH.nil)
          go_simp
          skip
          (try dsimp only)
          refine hK.out _ _ ?_ (fun hHeld3 => ?_)
          · first | trivial | ((try dsimp only); first | assumption | trivial | go_keep)
          clear hK K hHeld2
          (try simp only [Act.put, List.setIfInBounds_toArray, List.set_cons_succ, List.set_cons_zero])
          refine wpAnyH_ready (rs := [7]) (by kernel_rfl) (by simp) ?_
          refine (AllReadyH.cons (o := ⟨some 39, .call { callee := .builtin .append, args := #[.tmp 33, .tmp 38], argTypes := #[39, 39] }, 39, "stext.go:260", #[⟨1, .data⟩, ⟨6, .data⟩, ⟨4, .chain⟩], none⟩) rfl (fun K hK => ?_) AllReadyH.nil)
          (refine step_app Tryz.underlying39 hi0 hz0 hz1 hz2 rfl (by omega) encE_len encE_one _ rfl (.tmp 33) (.tmp 38) rfl (Kx + 1) (.slice B0 L0.length d0) L0.length L0 (by rfl) S4.own [((⟨q, n⟩ : St.Edge), A, c)] 1 1 _ rfl (by rfl) (one_edge w3 ((⟨q, n⟩ : St.Edge), A, c)) (by have := HLe.out; omega) (by omega) (by have := S4.ltx; omega) ?_; intro A' c' w5 own5 hg5; have V5 := var_grown S4.cur S4.own (by decide) hg5; have S5 := S4.app (p := ((⟨q, n⟩ : St.Edge), A, c)) hrow4 own5 hg5; have e3 : w5.cell? ⟨Kx, 3, none⟩ = some (.slice B0 L0.length d0) := V5.cells 3; have z3 := V5.froz 3; have l3 := V5.lt)
          (try dsimp only)
          refine hK.out _ _ ?_ (fun hHeld4 => ?_)
          · first | trivial | ((try dsimp only); first | assumption | trivial | go_keep)
          clear hK K hHeld3
          (try simp only [Act.put, List.setIfInBounds_toArray, List.set_cons_succ, List.set_cons_zero])
          refine tk (i := 8) (oi := ⟨some 40, .fieldAddr 42 (.tmp 6) 3, 0, "stext.go:260", #[⟨0, .phase⟩, ⟨1, .phase⟩, ⟨2, .phase⟩, ⟨3, .phase⟩, ⟨4, .phase⟩, ⟨5, .phase⟩, ⟨6, .phase⟩, ⟨7, .phase⟩], none⟩) rfl ?_; (try simp only [Act.put, List.setIfInBounds_toArray, List.set_cons_succ, List.set_cons_zero])
          refine wpAnyH_ready (rs := [9]) (by kernel_rfl) (by simp) ?_
          refine (AllReadyH.cons (o := ⟨none, .store 39 (.tmp 40) (.tmp 39), 0, "stext.go:260", #[⟨8, .data⟩, ⟨7, .data⟩, ⟨7, .chain⟩, ⟨0, .phase⟩, ⟨1, .phase⟩, ⟨2, .phase⟩, ⟨3, .phase⟩, ⟨4, .phase⟩, ⟨5, .phase⟩, ⟨6, .phase⟩, ⟨7, .phase⟩], none⟩) rfl (fun K hK => ?_) AllReadyH.nil)
          go_simp
          skip
          (try dsimp only)
          refine hK.out _ _ ?_ (fun hHeld5 => ?_)
          · first | trivial | ((try dsimp only); first | assumption | trivial | go_keep)
          clear hK K hHeld4
          (try simp only [Act.put, List.setIfInBounds_toArray, List.set_cons_succ, List.set_cons_zero])
          refine wpAnyH_done (by kernel_rfl) ?_ _
          (try dsimp only)
          repeat (first | go_values | go_skip | go_guarded | go_step | go_upon)
          go_roundw
          case rel => exact ⟨es ++ [⟨q, n⟩], nl, nok, f, Lib.hid S5.st, by omega, by simp; omega, Lib.hid (by rw [HZ.out]; simp)⟩
          case measure =>
            obtain ⟨aA, ac, aV, -⟩ := S5.rd.ex
            have am := aV.cells 0
            rw [HCM.out]
            show lenOf (((w5.setCell ⟨Kx, 3, none⟩ _).cell? ⟨N, 0, none⟩).getD undef) < _
            rw [am]
            simp [lenOf]; omega
end Go.Proofs.YtmhmpobjjhbklaaGreatDoor
