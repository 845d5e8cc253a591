/-
  Layer 40, the reference's Parse. (Printed by gen_sqd.py.)
-/
import Derived.Test.YtmhmpobjjhbklaaGreatDoorTk
import Derived.Test.YtmhmpobjjhbklaaGreatDoorQD
import Derived.Test.YtmhmpobjjhbklaaGreatDoorQE
set_option linter.unusedVariables false
set_option linter.unusedSimpArgs false
namespace Go.Proofs.YtmhmpobjjhbklaaGreatDoor
namespace St
def runR (i : Nat) (p : PS) : List W → Nat ⊕ PS
  | [] => .inr p
  | s :: t => match stepR i p s with
    | none => .inl i
    | some q => runR (i + 1) q t
def parseR (s : W) : Ssa × Int × Int := finishO (linesGo [] s) (runR 0 (.cl empty) (linesGo [] s).dropLast)
theorem run_same : ∀ (L : List W) (i : Nat) (p : PS), (∀ u ∈ L, u.length ≤ 8000 ∧ (Lib.fieldsD u).length ≤ 5000) → runR i p L = runO i p L
  | [], i, p, _ => rfl
  | s :: t, i, p, h => by
    obtain ⟨h1, h2⟩ := h s (by simp)
    unfold runR runO
    rw [step_same i p s h1 h2]
    rcases stepO i p s with _ | q
    · rfl
    · exact run_same t _ _ fun u hu => h u (by simp [hu])
theorem parse_same {s : W} (h : s.length ≤ 4900) : parseR s = parseO s := by
  obtain ⟨h1, -⟩ := split_lnok h
  have h2 : ∀ u ∈ Lib.split s [10], u.length ≤ s.length := fun u hu => by
    have := join_part [10] (Lib.split s [10]) u hu
    rwa [(join_split [10] (by simp) s.length s (Nat.le_refl _)).1] at this
  unfold parseR parseO
  rw [lines_split, run_same _ _ _ fun u hu => by
    have hu' := List.dropLast_subset _ hu
    exact ⟨by have := h2 u hu'; omega, (h1 u hu').words⟩]
theorem stepR_blk {i : Nat} (hi : 2 ≤ i) {x : Ssa} {s : W} : stepR i (.cl x) s = if (rblockP s).2 then some (.op x (rblockP s).1 []) else none := by
  obtain ⟨j, rfl⟩ : ∃ j, i = j + 2 := ⟨i - 2, by omega⟩
  rfl
theorem stepR_op {i : Nat} {x : Ssa} {params : List Int} {ins : List Ins} {s : W} : stepR i (.op x params ins) s = if (rfinP s).2 then some (.cl ⟨x.ps, x.rs, x.vals, x.blocks ++ [⟨params, if (rinsP s).2 then ins ++ [(rinsP s).1] else ins, (rfinP s).1⟩]⟩) else if (rinsP s).2 then some (.op x params (ins ++ [(rinsP s).1])) else none := by
  match i with
  | 0 => rfl
  | 1 => rfl
  | i + 2 => rfl
theorem stepR_in {i : Nat} {p q : PS} {s : W} (h : s.length ≤ 8000) (hs : (Lib.fieldsD s).length ≤ 5000) (hp : p.In i) (hq : stepR i p s = some q) : q.In (i + 1) := stepO_in hp (by rw [← step_same i p s h hs]; exact hq)
end St
open Go.RowKit
open St (InR BV PS)
theorem QCl.bel {w0 W : World} {Kp : Nat} {cs : Array Value} {P R V B : Option Addr} {d : Nat} {x : St.Ssa} (h : QCl w0 W Kp cs P R V B d x) : Below w0.heap.size w0 W ∧ Var W Kp cs 27 := by
  obtain ⟨_, _, h, _⟩ := h
  exact ⟨h.bel, h.cell⟩
theorem QOp.bel {w0 W : World} {Kp : Nat} {cs : Array Value} {P R V : Option Addr} {g d : Nat} {x : St.Ssa} {params : List Int} {ins : List St.Ins} (h : QOp w0 W Kp cs P R V g d x params ins) : Below w0.heap.size w0 W ∧ Var W Kp cs 27 := by
  obtain ⟨_, _, _, _, h, _⟩ := h
  exact ⟨h.p.bel, h.p.cell⟩
/-- A form that was read, as it lies in memory. -/
theorem QCl.ssa {w0 W : World} {Kp : Nat} {cs : Array Value} {P R V B : Option Addr} {d : Nat} {x : St.Ssa} (h : QCl w0 W Kp cs P R V B d x) : SsaAt (fun g => Kp < g) W x P R V B := by
  obtain ⟨S, L, hA, hL, hC⟩ := h
  have hl : x.blocks.length = L.length := by rw [← hL]; simp
  refine ⟨hA.tps.mono fun g _ hs => (hA.sS g hs).2.1, hA.trs.mono fun g _ hs => (hA.sS g hs).2.1, hA.tvs.mono fun g _ hs => (hA.sS g hs).2.1, fun hne => ?_⟩
  have hL0 : L ≠ [] := fun e => hne (by rw [← hL, e]; rfl)
  obtain ⟨g, o, e, hb, hc⟩ := own_rds encB_len (by omega) hA.own hL0
  refine ⟨g, o, e, (by subst e; have := (hA.own.lt g rfl).1; omega), hb, fun i hi => ?_⟩
  have hi2 : i < L.length := by omega
  have he : x.blocks[i] = L[i].blk := by simp [← hL]
  have hI := (hC _ (List.getElem_mem hi2)).mono (S' := fun g => Kp < g) fun g _ hs => (hA.sS g hs).2.1
  rw [he]
  exact ⟨⟨_, _, hc i hi2 0 _ rfl, hI.p⟩, ⟨_, _, hc i hi2 1 _ rfl, hI.i⟩, hc i hi2 2 _ rfl, hc i hi2 3 _ rfl, ⟨_, _, hc i hi2 4 _ rfl, hI.a⟩, ⟨_, _, hc i hi2 5 _ rfl, hI.e⟩, hc i hi2 6 _ rfl⟩
theorem QOp.below {w0 W W' : World} {Kp : Nat} {cs : Array Value} {P R V : Option Addr} {g d : Nat} {x : St.Ssa} {params : List Int} {ins : List St.Ins} (h : QOp w0 W Kp cs P R V g d x params ins) (hb : Below W.heap.size W W') : QOp w0 W' Kp cs P R V g d x params ins := by
  obtain ⟨S, L, cur, M, h, r⟩ := h
  exact ⟨S, L, cur, M, h.below hb, r⟩
theorem QCl.re {w0 W W' : World} {Kp : Nat} {cs cs' : Array Value} {P R V B : Option Addr} {d : Nat} {x : St.Ssa} (h : QCl w0 W Kp cs P R V B d x) (hv : Var W' Kp cs' 27) (hg : W.grownBy W' (some Kp)) : QCl w0 W' Kp cs' P R V B d x := by
  obtain ⟨S, L, h, r, hC⟩ := h
  exact ⟨S, L, h.put hv hg h.tps h.trs h.tvs, r, fun b hb => (hC b hb).keep (h.keepK hg) hg.size⟩
theorem QOp.re {w0 W W' : World} {Kp : Nat} {cs cs' : Array Value} {P R V : Option Addr} {g d : Nat} {x : St.Ssa} {params : List Int} {ins : List St.Ins} (h : QOp w0 W Kp cs P R V g d x params ins) (hv : Var W' Kp cs' 27) (hg : W.grownBy W' (some Kp)) : QOp w0 W' Kp cs' P R V g d x params ins := by
  obtain ⟨S, L, cur, M, h, r⟩ := h
  have hk := h.p.keepK hg
  exact ⟨S, L, cur, M, ⟨h.p.put hv hg h.p.tps h.p.trs h.p.tvs, fun b hb => (h.bc b hb).keep hk hg.size, RdZ.keep hk hg.size h.par, own_stay h.own hg (by omega), fun v hv' => (h.ic v hv').keep hk hg.size, h.oS⟩, r⟩
theorem info_ssa4 : (Tryz.prog.info? 27).map (·.size) = some 4 := by kernel_rfl
def fC (x : St.Ssa) (P : Option Addr) (c1 : Nat) (R : Option Addr) (c2 : Nat) (V : Option Addr) (c3 : Nat) (B : Option Addr) (n d : Nat) : Array Value := #[.slice P x.ps.length c1, .slice R x.rs.length c2, .slice V x.vals.length c3, .slice B n d]
/-- The form under construction, at the head of the loop. -/
def RP (w0 W : World) (Kp : Nat) : PS → Prop
  | .cl x => ∃ P c1 R c2 V c3 B d, QCl w0 W Kp (fC x P c1 R c2 V c3 B x.blocks.length d) P R V B d x
  | .op x params ins => ∃ P c1 R c2 V c3 g d, QOp w0 W Kp (fC x P c1 R c2 V c3 (some ⟨g, 0, none⟩) (x.blocks.length + 1) d) P R V g d x params ins
theorem RP.bel {w0 W : World} {Kp : Nat} {p : PS} (h : RP w0 W Kp p) : Below w0.heap.size w0 W := by
  cases p with
  | cl x => obtain ⟨_, _, _, _, _, _, _, _, h⟩ := h; exact h.bel.1
  | op x params ins => obtain ⟨_, _, _, _, _, _, _, _, h⟩ := h; exact h.bel.1
theorem RP.new (W : World) : RP W (W.alloc (.cells #[.slice none 0 0, .slice none 0 0, .slice none 0 0, .slice none 0 0] 27)) W.heap.size (.cl St.empty) :=
  ⟨none, 0, none, 0, none, 0, none, 0, fun _ => False, [], ⟨(Below.refl _ _).alloc (Nat.le_refl _) _, Nat.le_refl _, Var.new _ _ _, RdT.nil_, RdT.nil_, RdT.nil_, World.ownsRow_nil _ _ _ _, fun _ h => h.elim⟩, rfl, by simp⟩
attribute [local go_sem] ByteArray.extract_mk
set_option maxHeartbeats 40000000 in
set_option maxRecDepth 100000 in
/-- The reference's Parse. -/
theorem rparse_any (s : St.W) (hs : s.length ≤ 4900) (w : World) :
    Calls Tryz.prog 12 #[.string ⟨s.toArray⟩] w fun e w' => ParseOut (St.parseR s) e w' ∧ Below w.heap.size w w' := by
  have hsz : (ByteArray.mk s.toArray).size = s.length := mk_size s
  have x1 : ¬ ((1048576 : Int) < (s.length : Int)) := by omega
  have HS := Lib.hid (fun W => rlines_any s (by omega) W)
  have hne := St.linesGo_ne s []
  have hlok : ∀ u ∈ St.linesGo [] s, u.length ≤ 4900 ∧ (Lib.fieldsD u).length ≤ 5000 := fun u hu => by
    rw [St.lines_split] at hu
    refine ⟨?_, ((St.split_lnok hs).1 u hu).words⟩
    have := St.join_part [10] (Lib.split s [10]) u hu
    rw [(St.join_split [10] (by simp) s.length s (Nat.le_refl _)).1] at this
    omega
  have hln : (St.linesGo [] s).length ≤ 5000 := by rw [St.lines_split]; exact (St.split_lnok hs).2
  obtain ⟨R, hR⟩ : ∃ x, St.parseR s = x := ⟨_, rfl⟩
  rw [hR]
  unfold St.parseR at hR
  obtain ⟨L, hL⟩ : ∃ x, St.linesGo [] s = x := ⟨_, rfl⟩
  rw [hL] at HS hln hne hR hlok
  clear hL
  obtain ⟨I, z, rfl⟩ : ∃ I z, L = I ++ [z] := ⟨_, _, (List.dropLast_concat_getLast hne).symm⟩
  rw [List.dropLast_concat] at hR
  have hll : (I ++ [z]).length = I.length + 1 := by simp
  rw [hll] at hln
  have HI := Lib.hid (fun u (hu : u ∈ I) => hlok u (by simp [hu]))
  have HR := Lib.hid hR
  clear hR hne hlok
  have w1 : IntKind.i64.wrap ((I.length : Int)) = (I.length : Int) := by rw [IntKind.wrap_i64]; omega
  have HB0 := Lib.hid ((Below.refl w.heap.size w).alloc (Nat.le_refl _) (.cells #[.slice none 0 0, .slice none 0 0, .slice none 0 0, .slice none 0 0] 27))
  have HV0 := Lib.hid (Var.new w #[.slice none 0 0, .slice none 0 0, .slice none 0 0, .slice none 0 0] 27)
  go_enter Tryz.func12, Tryz.ntmps12
  go_upto_region 5 with (go_at_call 30; refine (HS.out _).mono ?_; rintro e w2 ⟨⟨v, rfl, A, cA, rfl, hrd, hcA⟩, hb⟩; rw [hll] at hcA)
  have V2 := HV0.out.below hb (by simp)
  have B2 := HB0.out.trans (hb.mono (by simp))
  have hK2 : w.heap.size < w2.heap.size := V2.lt
  go_upto_region 6 with fail
  refine at_code (F := fun W => RP w2 W w2.heap.size (.cl St.empty)) (RP.new w2) ?_
  clear hb HS HB0 HV0
  obtain ⟨Kp, hKp⟩ : ∃ K, w2.heap.size = K := ⟨_, rfl⟩
  simp only [hKp]
  intro w3 hP0
  obtain ⟨g, o, hA, hgb, -⟩ := hrd.get (i := 0) (by simp)
  subst hA
  have HV2 := Lib.hid V2
  have HB2 := Lib.hid B2
  have HK := Lib.hid hKp
  clear V2 B2 hKp
  have y0 : (0 : Int) ≤ (I.length : Int) := by omega
  have y1 : (I.length : Int) ≤ (I.length : Int) + 1 := by omega
  have y2 : I.length ≤ I.length + 1 := by omega
  go_wp2_with fail
  go_loopw [8, 9] (fun ov iv wr => ∃ (i : Nat) (p : PS), ov = .bool p.isOp ∧ iv = .int .i64 (i : Int) ∧ i ≤ I.length ∧ Hid (RP w2 wr Kp p) ∧ p.In i ∧ Hid (St.finishO (I ++ [z]) (St.runR i p (I.drop i)) = R)) (fun _ iv _ => I.length - (intOf iv).toNat)
  case atStart => exact ⟨0, .cl St.empty, rfl, rfl, by omega, Lib.hid hP0, ⟨fun _ => rfl, fun h => by omega, by simp [St.empty]⟩, by simpa using HR⟩
  case round =>
    clear hP0 HR
    obtain ⟨i, p, rfl, rfl, hi, hP, hIn, hR⟩ := hrel
    have hB := hP.out.bel
    by_cases hia : i < I.length
    · have hlt2 : i < (I ++ [z]).length := by simp; omega
      obtain ⟨g', o', hgo, -, e1⟩ := (hrd.below hB).get hlt2
      cases hgo
      have f4 := e1 0 _ rfl
      rw [Nat.add_zero, Nat.mul_one, List.getElem_append_left hia] at f4
      obtain ⟨g', o', hgo, -, e2⟩ := hrd.get hlt2
      cases hgo
      have f4w := e2 0 _ rfl
      rw [Nat.add_zero, Nat.mul_one, List.getElem_append_left hia] at f4w
      have hi5 : i ≤ 5000 := by omega
      have hd : I.drop i = I[i] :: I.drop (i + 1) := List.drop_eq_getElem_cons hia
      obtain ⟨hu1, hu2⟩ := HI.out I[i] (List.getElem_mem _)
      have hR2 := hR.out
      rw [hd, St.runR] at hR2
      have hq := fun q => St.stepR_in (i := i) (p := p) (q := q) (s := I[i]) (by omega) hu2 hIn
      have hsame := St.step_same i p I[i] (by omega) hu2
      obtain ⟨u, hu⟩ : ∃ u, I[i] = u := ⟨_, rfl⟩
      rw [hu] at f4 f4w hu1 hu2 hR2 hq hsame
      have HF4 := Lib.hid f4w
      clear f4w e2
      have x3 : (i : Int) < (I.length : Int) := by omega
      have x4 : (0 : Int) ≤ (i : Int) := by omega
      have hw := wrap_next i (by omega)
      have hgw : g < wr.heap.size := Nat.lt_of_lt_of_le hgb hB.size
      have hKg : ¬ (Kp = g) := by rw [← HK.out]; omega
      have hgK : ¬ (g = Kp) := by omega
      clear hd hu e1 hR hrd hlt2 hB y0 y1 y2 w1 hcA hll hln
      cases p with
      | cl x =>
        obtain ⟨P, c1, R1, c2, V, c3, B, d, hQ⟩ := hP.out
        obtain ⟨S, L, hA, hL, hC⟩ := hQ
        have hlK := hA.lt
        obtain ⟨⟨k0, k1, k2, k3⟩, l0, l1, l2, l3⟩ := cells4' (show Var wr Kp #[.slice P x.ps.length c1, .slice R1 x.rs.length c2, .slice V x.vals.length c3, .slice B x.blocks.length d] 27 from hA.cell)
        by_cases h0 : i = 0
        · subst h0
          -- PART p0
          obtain rfl := hIn.1 rfl
          have hL0 : L = [] := by simpa [St.empty] using hL
          subst hL0
          rw [Nat.add_zero] at f4
          clear HF4
          have HF := Lib.hid (fun W => rreadFunc_any u hu1 W)
          simp only [St.stepR] at hR2 hq
          obtain ⟨⟨⟨a, b⟩, fb⟩, hf⟩ : ∃ y, St.rfuncP u = y := ⟨_, rfl⟩
          rw [hf] at HF hR2 hq
          dsimp only at hR2 hq
          have hq := hq (.cl ⟨a, b, [], []⟩)
          clear hf hsame hC hP hL hIn hu1 hu2
          rw [show ((0 : Nat) : Int) = 0 from rfl]
          go_upto_region 13 with (go_at_call 31; refine (HF.out _).mono ?_; rintro e w5 ⟨⟨A5, c5, B5, d5, rfl, r1, r2⟩, hb⟩; dsimp only; dsimp only at r1 r2)
          have ha := hb.alloc hb.size (.cells #[.slice A5 a.length c5, .slice B5 b.length d5] 24)
          have ha' := (Below.refl w5.heap.size w5).alloc (Nat.le_refl _) (.cells #[.slice A5 a.length c5, .slice B5 b.length d5] 24)
          refine at_code (F := fun W => Below wr.heap.size wr W ∧ Var W w5.heap.size #[.slice A5 a.length c5, .slice B5 b.length d5] 24 ∧ RdZ W (fun k => wr.heap.size ≤ k) A5 a ∧ RdZ W (fun k => wr.heap.size ≤ k) B5 b) ⟨ha, Var.new _ _ _, RdZ.on r1 ha', RdZ.on r2 ha'⟩ ?_
          obtain ⟨K5, hK5⟩ : ∃ K, w5.heap.size = K := ⟨_, rfl⟩
          simp only [hK5]
          clear ha ha' r1 r2 hb hK5 HF k0 k1 k2 k3 l0 l1 l2 l3 f4
          rintro W ⟨hb, v5, r1, r2⟩
          have hA1 := (hA.below hb).more (N := wr.heap.size) hlK (fun j hj => hA.ownlt j hj)
          obtain ⟨⟨t0, t1⟩, -, -⟩ := cells2' v5
          have hl5 := v5.lt
          have hvA : Var W Kp #[.slice P 0 c1, .slice R1 0 c2, .slice V 0 c3, .slice B 0 d] 27 := hA1.cell
          obtain ⟨⟨k0, k1, k2, k3⟩, l0, l1, l2, l3⟩ := cells4' hvA
          have hlK1 := hA1.lt
          have hA2 := hA1.put (cs' := #[.slice A5 a.length c5, .slice B5 b.length d5, .slice V 0 c3, .slice B 0 d]) (P' := A5) (R' := B5) (V' := V) (ps' := a) (rs' := b) (vals' := []) (W' := ((W.setCell ⟨Kp, 0, none⟩ (.slice A5 a.length c5)).setCell ⟨Kp, 1, none⟩ (.slice B5 b.length d5))) (by have h := (hvA.set 0 (.slice A5 a.length c5)).set 1 (.slice B5 b.length d5); simp only [List.setIfInBounds_toArray, List.set_cons_zero, List.set_cons_succ] at h; exact h) ((grown_set _ _ _ _).trans (grown_set _ _ _ _)) (r1.mono fun k h1 h2 => .inr ⟨h2, h1⟩) (r2.mono fun k h1 h2 => .inr ⟨h2, h1⟩) RdT.nil_
          have HA2 := Lib.hid (show RP w2 ((W.setCell ⟨Kp, 0, none⟩ (.slice A5 a.length c5)).setCell ⟨Kp, 1, none⟩ (.slice B5 b.length d5)) Kp (.cl ⟨a, b, [], []⟩) from ⟨A5, c5, B5, d5, V, c3, B, d, _, [], hA2, rfl, by simp⟩)
          clear hA hA1 hA2 r1 r2 hb v5 hvA
          rcases fb with _ | _
          · have HR2 : Hid (R = (St.empty, 1, 4)) := Lib.hid (by rw [← hR2]; rfl)
            clear hR2 hq
            go_upto_region 26 with fail
            refine at_code (F := fun W => Hid (RP w2 W Kp (.cl ⟨a, b, [], []⟩))) HA2 ?_
            clear HA2 k0 k1 k2 k3 l0 l1 l2 l3 t0 t1 hl5 hlK1
            rintro W9 HP9
            have hB9 := HP9.out.bel
            have HV5 := Lib.hid (var_keep HV2.out hB9)
            have HB5 := Lib.hid (HB2.out.trans (hB9.mono HB2.out.size))
            clear hB9 HP9
            obtain ⟨⟨q0, q1, q2, q3⟩, s0, s1, s2, s3⟩ := cells4' HV5.out
            have hl5 := HV5.out.lt
            go_wp2_with fail
            have gE := put4 HV5.out (.slice none 0 0) (.slice none 0 0) (.slice none 0 0) (.slice none 0 0)
            refine bodyPost_ret (results_cell_2 rfl _ _ w.heap.size _ #[.slice none 0 0, .slice none 0 0, .slice none 0 0, .slice none 0 0] (0, 0) _ rfl gE.1 Tryz.underlying27 rfl (by kernel_rfl)) rfl ?_
            obtain rfl := HR2.out
            exact ⟨⟨fun _ => True, none, 0, none, 0, none, 0, none, 0, rfl, ssa_empty⟩, below_grown HB5.out gE.2 HB5.out.size (Nat.le_refl _)⟩
          · have HR2 := Lib.hid hR2
            have hin := hq rfl
            clear hR2 hq
            go_wp2_with fail
            go_roundw
            case rel => exact ⟨1, .cl ⟨a, b, [], []⟩, rfl, rfl, by omega, HA2, hin, HR2⟩
            case measure => simp [intOf]; omega
        by_cases h1 : i = 1
        · subst h1
          -- PART p1
          clear h0
          obtain ⟨ps, rs, vals, blocks⟩ := x
          obtain ⟨hv0, hb0⟩ := hIn.2.1 rfl
          dsimp only at hv0 hb0 hA k0 k1 k2 k3
          subst hv0 hb0
          have hL0 : L = [] := by simpa using hL
          subst hL0
          have HW := Lib.hid (fun W => rwords_any u (by omega) W)
          have hwl := St.words_len u
          have hwc := St.words_count u
          have hwn := St.words_ne u
          simp only [St.stepR] at hR2 hq
          have hvb : St.rvalsB u = ((St.valsP (St.words u).tail).2 && ((St.words u).head? == some St.lVals)) := rfl
          obtain ⟨vb, hvv⟩ : ∃ b, St.rvalsB u = b := ⟨_, rfl⟩
          rw [hvv] at hR2 hq hvb
          obtain ⟨L1, hL1⟩ : ∃ l, St.words u = l := ⟨_, rfl⟩
          rw [hL1] at HW hwl hwc hwn hR2 hq hvb
          clear hL1 hvv
          obtain ⟨u0, t, rfl⟩ := List.exists_cons_of_ne_nil hwn
          simp only [List.tail_cons, List.head?_cons, List.length_cons] at hR2 hq hwc hvb
          have HRV := Lib.hid (fun v W h => rreadVals_any v t (by omega) W h)
          obtain ⟨⟨a, fb⟩, hf⟩ : ∃ y, St.valsP t = y := ⟨_, rfl⟩
          rw [hf] at HRV hR2 hq hvb
          dsimp only at hR2 hq hvb
          have hq := hq (.cl ⟨ps, rs, a, []⟩)
          have HVB := Lib.hid hvb
          clear hvb
          have q5 : (1 : Int) ≤ (t.length : Int) + 1 := by omega
          clear hf hsame hC hP hL hIn hu1 hu2 hwl hwn
          rw [show ((1 : Nat) : Int) = 1 from rfl]
          go_upto_region 18 with (first
            | (go_at_call 32; refine (HW.out _).mono ?_; rintro e w5 ⟨⟨v5, rfl, A5, c5, rfl, hr5, hc5⟩, hb5⟩; obtain ⟨g5, o5, rfl, hg5, hh5⟩ := hr5.get (i := 0) (by simp); have f5 := hh5 0 _ rfl; simp only [Nat.zero_mul, Nat.add_zero, List.getElem_cons_zero] at f5; simp only [List.length_cons] at hc5; have HC := Lib.hid (fun (o' c' : Nat) (ho : t = [] ∨ o' = o5 + 1) (hc' : t.length ≤ c') => Sl.cut hr5 ho hc'); have HB5 := Lib.hid hb5; have hs5 := hb5.size; clear hr5 hh5 hb5)
            | (go_at_call 33; with_reducible refine (HRV.out _ _ (HC.out _ _ (by first | exact .inr rfl | exact .inl (List.eq_nil_of_length_eq_zero (by omega))) (by omega))).mono ?_; rintro e w6 ⟨⟨A6, c6, rfl, r6⟩, hb6⟩; have HB6 := Lib.hid (HB5.out.trans (hb6.mono HB5.out.size)); have HF5 := Lib.hid ((hb6.cell (p := ⟨g5, o5, none⟩) hg5).trans f5); have HR6 := Lib.hid (r6.mono (S' := fun k => wr.heap.size ≤ k) (fun k _ h => Nat.le_trans hs5 h)); clear hb6 r6 f5))
          all_goals (
            have hA1 := (hA.below HB6.out).more (N := wr.heap.size) hlK (fun j hj => hA.ownlt j hj)
            have hvA : Var w6 Kp #[.slice P ps.length c1, .slice R1 rs.length c2, .slice V 0 c3, .slice B 0 d] 27 := hA1.cell
            have hA2 := hA1.put (cs' := #[.slice P ps.length c1, .slice R1 rs.length c2, .slice A6 a.length c6, .slice B 0 d]) (P' := P) (R' := R1) (V' := A6) (ps' := ps) (rs' := rs) (vals' := a) (W' := w6.setCell ⟨Kp, 2, none⟩ (.slice A6 a.length c6)) (by have h := hvA.set 2 (.slice A6 a.length c6); simp only [List.setIfInBounds_toArray, List.set_cons_zero, List.set_cons_succ] at h; exact h) (grown_set _ _ _ _) hA1.tps hA1.trs (HR6.out.mono fun k h1 h2 => .inr ⟨h2, h1⟩)
            have hgn : g5 ≠ Kp := fun e => by
              subst e
              have h := hvA.cells o5
              rw [HF5.out] at h
              match o5 with
              | 0 => cases h
              | 1 => cases h
              | 2 => cases h
              | 3 => cases h
              | n + 4 => simp at h
            have hf5 : (w6.setCell ⟨Kp, 2, none⟩ (.slice A6 a.length c6)).cell? ⟨g5, o5, none⟩ = some (.string ⟨u0.toArray⟩) := (grown_set w6 Kp 2 _).cell HF5.out (fun e => hgn (by injection e))
            have HA2 : Hid (RP w2 (w6.setCell ⟨Kp, 2, none⟩ (.slice A6 a.length c6)) Kp (.cl ⟨ps, rs, a, []⟩)) := Lib.hid ⟨P, c1, R1, c2, A6, c6, B, d, _, [], hA2, rfl, by simp⟩
            have hlg5 : g5 < (w6.setCell ⟨Kp, 2, none⟩ (.slice A6 a.length c6)).heap.size := Nat.lt_of_lt_of_le (World.block_lt_of_cell? _ _ HF5.out) (grown_set w6 Kp 2 _).size
            obtain ⟨-, -, -, l2, -⟩ := cells4' hvA
            have k2 := hvA.cells 2
            have hl6 := hvA.lt
            simp only [List.getElem?_toArray, List.getElem?_cons_zero, List.getElem?_cons_succ] at k2
            clear hA1 hA2 hvA HB6 HR6 HF5 HRV HC HB5
            go_upto_region 19 with fail
            refine at_code (F := fun W => Hid (RP w2 W Kp (.cl ⟨ps, rs, a, []⟩)) ∧ W.cell? ⟨g5, o5, none⟩ = some (.string ⟨u0.toArray⟩)) ⟨HA2, hf5⟩ ?_
            clear HA2 hf5 hgn hlg5 l2 k2 hl6 k0 k1 k3 l0 l1 l3 hA hlK f4
            rintro W ⟨HA2, hf5⟩
            rcases fb with _ | _
            · have HR2 : Hid (R = (St.empty, 2, 4)) := Lib.hid (by rw [← hR2, HVB.out]; rfl)
              clear hR2 hq HVB
              go_upto_region 26 with fail
              refine at_code (F := fun W => Hid (RP w2 W Kp (.cl ⟨ps, rs, a, []⟩))) HA2 ?_
              clear HA2 hf5
              rintro W9 HP9
              have hB9 := HP9.out.bel
              have HV5 := Lib.hid (var_keep HV2.out hB9)
              have HB5 := Lib.hid (HB2.out.trans (hB9.mono HB2.out.size))
              clear hB9 HP9
              obtain ⟨⟨q0, q1, q2, q3⟩, s0, s1, s2, s3⟩ := cells4' HV5.out
              have hl5 := HV5.out.lt
              go_wp2_with fail
              have gE := put4 HV5.out (.slice none 0 0) (.slice none 0 0) (.slice none 0 0) (.slice none 0 0)
              refine bodyPost_ret (results_cell_2 rfl _ _ w.heap.size _ #[.slice none 0 0, .slice none 0 0, .slice none 0 0, .slice none 0 0] (0, 0) _ rfl gE.1 Tryz.underlying27 rfl (by kernel_rfl)) rfl ?_
              obtain rfl := HR2.out
              exact ⟨⟨fun _ => True, none, 0, none, 0, none, 0, none, 0, rfl, ssa_empty⟩, below_grown HB5.out gE.2 HB5.out.size (Nat.le_refl _)⟩
            · by_cases hu : u0 = St.lVals
              · have q1 : (u0 == ([118, 97, 108, 115] : List UInt8)) = true := by rw [hu]; decide
                have q3 : (((ByteArray.mk u0.toArray) == (ByteArray.mk #[118, 97, 108, 115])) = true) := by rw [hu]; rfl
                have hc : vb = true := by rw [HVB.out, hu]; decide
                rw [if_pos hc] at hR2 hq
                have HR2 := Lib.hid hR2
                have hin := hq rfl
                clear hR2 hq hu hc HVB
                go_wp2_with fail
                go_roundw
                case rel => exact ⟨2, .cl ⟨ps, rs, a, []⟩, rfl, rfl, by omega, HA2, hin, HR2⟩
                case measure => simp [intOf]; omega
              · have q1 : (u0 == ([118, 97, 108, 115] : List UInt8)) = false := beq_eq_false_iff_ne.2 hu
                have q3 : (((ByteArray.mk u0.toArray) == (ByteArray.mk #[118, 97, 108, 115])) = false) := beq_no (b := [118, 97, 108, 115]) hu
                have hc : ¬ (vb = true) := by rw [HVB.out]; simpa using hu
                rw [if_neg hc] at hR2
                have HR2 : Hid (R = (St.empty, 2, 4)) := Lib.hid (by rw [← hR2]; rfl)
                clear hR2 hq hu hc HVB
                go_upto_region 26 with fail
                refine at_code (F := fun W => Hid (RP w2 W Kp (.cl ⟨ps, rs, a, []⟩))) HA2 ?_
                clear HA2 hf5 q1 q3
                rintro W9 HP9
                have hB9 := HP9.out.bel
                have HV5 := Lib.hid (var_keep HV2.out hB9)
                have HB5 := Lib.hid (HB2.out.trans (hB9.mono HB2.out.size))
                clear hB9 HP9
                obtain ⟨⟨q0, q1, q2, q3⟩, s0, s1, s2, s3⟩ := cells4' HV5.out
                have hl5 := HV5.out.lt
                go_wp2_with fail
                have gE := put4 HV5.out (.slice none 0 0) (.slice none 0 0) (.slice none 0 0) (.slice none 0 0)
                refine bodyPost_ret (results_cell_2 rfl _ _ w.heap.size _ #[.slice none 0 0, .slice none 0 0, .slice none 0 0, .slice none 0 0] (0, 0) _ rfl gE.1 Tryz.underlying27 rfl (by kernel_rfl)) rfl ?_
                obtain rfl := HR2.out
                exact ⟨⟨fun _ => True, none, 0, none, 0, none, 0, none, 0, rfl, ssa_empty⟩, below_grown HB5.out gE.2 HB5.out.size (Nat.le_refl _)⟩
          )
        · skip
          -- PART p2
          have q0 : ((i : Int) == 0) = false := by rw [beq_eq_false_iff_ne]; omega
          have q1 : ((i : Int) == 1) = false := by rw [beq_eq_false_iff_ne]; omega
          have q2 : ¬ ((i : Int) = 0) := by omega
          have q3 : ¬ ((i : Int) = 1) := by omega
          have HBk := Lib.hid (fun W => rreadBlock_any u (by omega) W)
          rw [St.stepR_blk (by omega)] at hR2 hq
          obtain ⟨⟨l, fb⟩, hf⟩ : ∃ y, St.rblockP u = y := ⟨_, rfl⟩
          rw [hf] at HBk hR2 hq
          dsimp only at hR2 hq
          have hq := hq (.op x l [])
          have hbl := hIn.2.2
          have hLl : x.blocks.length = L.length := by rw [← hL]; simp
          rw [hLl] at k3 hbl hA
          obtain ⟨zB, bB, hinfo, hzs, hbb⟩ := info_sblock
          obtain ⟨i0, hi0, hz0, hz1, hz2⟩ := info_parts hinfo
          clear hf hsame hP hIn hu1 hu2 hinfo h0 h1
          go_upto_region 22 with (go_at_call 34; refine (HBk.out _).mono ?_; rintro e w5 ⟨⟨A5, c5, rfl, r5⟩, hb⟩; dsimp only)
          have r5 : RdZ w5 (fun k => wr.heap.size ≤ k) A5 l := r5
          have HM := (hA.below hb).more (N := wr.heap.size) hlK (fun j hj => hA.ownlt j hj)
          have hC2 : ∀ b ∈ L, BC (fun k => S k ∨ (wr.heap.size ≤ k ∧ k < w5.heap.size)) w5 b := fun b hb' => ((hC b hb').keep (Below.keep hb S) hb.size).mono (fun _ _ h => .inl h)
          have e5 := new_rdz r5 S
          obtain ⟨S', hS'⟩ : ∃ S', (fun k => S k ∨ (wr.heap.size ≤ k ∧ k < w5.heap.size)) = S' := ⟨_, rfl⟩
          rw [hS'] at HM hC2 e5
          refine at_code (F := fun W => QAt w2 W Kp (fC x P c1 R1 c2 V c3 B L.length d) S' P R1 V B d x.ps x.rs x.vals L ∧ RdZ W S' A5 l ∧ ∀ b ∈ L, BC S' W b) ⟨HM, e5, hC2⟩ ?_
          clear HM hC2 e5 hS' r5 hb hA hC k0 k1 k2 k3 l0 l1 l2 l3 f4 HBk hlK hgw
          rintro W ⟨HA, e5, hC⟩
          have ha := (Below.refl W.heap.size W).alloc (Nat.le_refl _) (.cells #[.slice A5 l.length c5, .slice none 0 0, .int .i64 0, .int .i64 0, .slice none 0 0, .slice none 0 0, .int .i64 0] 44)
          have HA2 := Lib.hid (HA.below ha)
          have E2 := Lib.hid (e5.on ha)
          have HC2 : Hid (∀ b ∈ L, BC S' _ b) := Lib.hid fun b hb' => (hC b hb').keep (Below.keep ha S') ha.size
          have hlK := HA.lt
          obtain ⟨⟨k0, k1, k2, k3⟩, l0, l1, l2, l3⟩ := cells4' (show Var W Kp #[.slice P x.ps.length c1, .slice R1 x.rs.length c2, .slice V x.vals.length c3, .slice B L.length d] 27 from HA.cell)
          clear HA e5 hC ha
          go_upto_region 23 with (at_builtin; refine app_rs2 Tryz.underlying25 hi0 hz0 hz1 hz2 hzs (by omega) encB_len encB_one _ rfl (.tmp 79) (.tmp 82) rfl (Kp + 1) (.slice B L.length d) L.length L (by rfl) HA2.out.own [blk0 l A5 c5] 1 1 _ rfl (by rfl) (one_blk W l A5 c5) (by omega) hbb (by simp; omega) ?_; intro A6 c6 w6 own6 hg6 hob; obtain ⟨HA3, hk3, hs3⟩ := HA2.out.app own6 hg6 hob; have hvA : Var w6 Kp #[.slice P x.ps.length c1, .slice R1 x.rs.length c2, .slice V x.vals.length c3, .slice B L.length d] 27 := HA3.cell; have m3 := hvA.cells 3; have n3 := hvA.froz 3; have hl6 := hvA.lt; simp only [List.getElem?_toArray, List.getElem?_cons_zero, List.getElem?_cons_succ] at m3)
          obtain ⟨gN, rfl, -⟩ := own_cells own6 (i := 0) (by rw [flat_len encB_len]; simp)
          have gs := grown_set w6 Kp 3 (.slice (some ⟨gN, 0, none⟩) (L.length + 1) c6)
          have HA4 := HA3.put (cs' := #[.slice P x.ps.length c1, .slice R1 x.rs.length c2, .slice V x.vals.length c3, .slice (some ⟨gN, 0, none⟩) (L.length + 1) c6]) (W' := w6.setCell ⟨Kp, 3, none⟩ (.slice (some ⟨gN, 0, none⟩) (L.length + 1) c6)) (by have h := hvA.set 3 (.slice (some ⟨gN, 0, none⟩) (L.length + 1) c6); simp only [List.setIfInBounds_toArray, List.set_cons_zero, List.set_cons_succ] at h; exact h) gs HA3.tps HA3.trs HA3.tvs
          have hk6 := hk3.trans (HA3.keepK gs)
          have hs6 := Nat.le_trans hs3 gs.size
          have HA5 : Hid (RP w2 (w6.setCell ⟨Kp, 3, none⟩ (.slice (some ⟨gN, 0, none⟩) (L.length + 1) c6)) Kp (.op x l [])) := Lib.hid ⟨P, c1, R1, c2, V, c3, gN, c6, S', L, blk0 l A5 c5, [], ⟨by unfold fC; rw [hLl]; exact HA4, fun b hb => (HC2.out b hb).keep hk6 hs6, E2.out.keep hk6 hs6, World.ownsRow_nil _ _ _ _, by simp, fun k _ e => by cases e⟩, hL, rfl, rfl, rfl, rfl, rfl, rfl, rfl, rfl⟩
          clear HA4 HA3 HA2 HC2 E2 own6 hg6 hob hvA gs hk6 hs6 hk3 hs3 hL
          rcases fb with _ | _
          · have HR2 : Hid (R = (St.empty, (i : Int) + 1, 4)) := Lib.hid (by rw [← hR2]; rfl)
            clear hR2 hq
            go_upto_region 26 with fail
            refine at_code (F := fun W => Hid (RP w2 W Kp (.op x l []))) HA5 ?_
            clear HA5 k0 k1 k2 k3 l0 l1 l2 l3 m3 n3 hl6 hlK
            rintro W9 HP9
            have hB9 := HP9.out.bel
            have HV5 := Lib.hid (var_keep HV2.out hB9)
            have HB5 := Lib.hid (HB2.out.trans (hB9.mono HB2.out.size))
            clear hB9 HP9
            obtain ⟨⟨q0, q1, q2, q3⟩, s0, s1, s2, s3⟩ := cells4' HV5.out
            have hl5 := HV5.out.lt
            go_wp2_with fail
            have gE := put4 HV5.out (.slice none 0 0) (.slice none 0 0) (.slice none 0 0) (.slice none 0 0)
            refine bodyPost_ret (results_cell_2 rfl _ _ w.heap.size _ #[.slice none 0 0, .slice none 0 0, .slice none 0 0, .slice none 0 0] (0, 0) _ rfl gE.1 Tryz.underlying27 rfl (by kernel_rfl)) rfl ?_
            obtain rfl := HR2.out
            exact ⟨⟨fun _ => True, none, 0, none, 0, none, 0, none, 0, rfl, ssa_empty⟩, below_grown HB5.out gE.2 HB5.out.size (Nat.le_refl _)⟩
          · have HR2 := Lib.hid hR2
            have hin := hq rfl
            clear hR2 hq
            go_wp2_with fail
            go_roundw
            case rel => exact ⟨i + 1, .op x l [], rfl, by go_num, by omega, HA5, hin, HR2⟩
            case measure => simp [intOf]; omega
      | op x params ins =>
        -- PART pop
        obtain ⟨P, c1, R1, c2, V, c3, gB, d, hQ⟩ := hP.out
        have hnb : (St.rfinP u).2 = true → (St.rinsP u).2 = false := fun h => by
          obtain ⟨a, -⟩ := St.fin_same u (by omega) hu2
          obtain ⟨c, -⟩ := St.ins_same u (by omega) hu2
          rcases h2 : (St.rinsP u).2 with _ | _
          · rfl
          · exact (St.not_both (by rw [← a]; exact h) (by rw [← c]; exact h2)).elim
        have hQD : QOp w2 (World.drew wr) Kp (fC x P c1 R1 c2 V c3 (some ⟨gB, 0, none⟩) (x.blocks.length + 1) d) P R1 V gB d x params ins := hQ.below (below_drewN wr 1)
        have HRow := Lib.hid (rrow_any w2 Kp _ P R1 V gB d x params ins c1 c2 c3 u (by omega) (by have := hIn.2; omega) (by have := hIn.2; omega) _ hQD hnb)
        rw [St.stepR_op] at hR2 hq
        obtain ⟨⟨f, fb⟩, hf⟩ : ∃ y, St.rfinP u = y := ⟨_, rfl⟩
        obtain ⟨⟨y, yb⟩, hy⟩ : ∃ y, St.rinsP u = y := ⟨_, rfl⟩
        rw [hf, hy] at HRow hR2 hq hnb
        dsimp only at hR2 hq hnb
        have hv0 : Var wr Kp #[.slice P x.ps.length c1, .slice R1 x.rs.length c2, .slice V x.vals.length c3, .slice (some ⟨gB, 0, none⟩) (x.blocks.length + 1) d] 27 := hQ.bel.2
        obtain ⟨⟨c0_, c1_, c2_, c3_⟩, l0, l1, l2, l3⟩ := cells4' hv0
        have hlK := hv0.lt
        have q0 : ((i : Int) == 0) = false := by have := hIn.1; rw [beq_eq_false_iff_ne]; omega
        have q1 : ((i : Int) == 1) = false := by have := hIn.1; rw [beq_eq_false_iff_ne]; omega
        have q2 : ¬ ((i : Int) = 0) := by have := hIn.1; omega
        have q3 : ¬ ((i : Int) = 1) := by have := hIn.1; omega
        have x8 : (i : Int) < (I.length : Int) + 1 := by omega
        have x9 : i < I.length + 1 := by omega
        dsimp only [St.PS.isOp]
        have f4w : w2.cell? ⟨g, o + i, none⟩ = some (.string ⟨u.toArray⟩) := HF4.out
        clear hf hy hsame hP hQ hQD hIn hu1 hu2 l0 l1 l2 l3
        go_upto_region 25 with fail
        rcases fb with _ | _
        · rcases yb with _ | _
          · have HR2 : Hid (R = (St.empty, (i : Int) + 1, 4)) := Lib.hid (by rw [← hR2]; rfl)
            clear hR2 hq
            have SS : (fun W' => W'.cell? ⟨Kp, 0, none⟩ = some (.slice P x.ps.length c1) ∧ W'.cell? ⟨Kp, 1, none⟩ = some (.slice R1 x.rs.length c2) ∧ W'.cell? ⟨Kp, 2, none⟩ = some (.slice V x.vals.length c3) ∧ W'.cell? ⟨Kp, 3, none⟩ = some (.slice (some ⟨gB, 0, none⟩) (x.blocks.length + 1) d) ∧ W'.cell? ⟨g, o + i, none⟩ = some (.string ⟨u.toArray⟩)) (World.drew wr) := ⟨c0_, c1_, c2_, c3_, f4⟩
            dsimp only at SS
            refine wp_region_held_drew (S := (fun W' => W'.cell? ⟨Kp, 0, none⟩ = some (.slice P x.ps.length c1) ∧ W'.cell? ⟨Kp, 1, none⟩ = some (.slice R1 x.rs.length c2) ∧ W'.cell? ⟨Kp, 2, none⟩ = some (.slice V x.vals.length c3) ∧ W'.cell? ⟨Kp, 3, none⟩ = some (.slice (some ⟨gB, 0, none⟩) (x.blocks.length + 1) d) ∧ W'.cell? ⟨g, o + i, none⟩ = some (.string ⟨u.toArray⟩))) (by kernel_rfl) ?_ (fun hHeld0 => ?_)
            · first | assumption | go_keep
            refine tk (i := 0) (oi := ⟨some 87, .load 27 (.tmp 7), 27, "ref.go:377", #[], none⟩) rfl ?_; (try simp only [Act.put, List.setIfInBounds_toArray, List.set_cons_succ, List.set_cons_zero])
            refine tk (i := 1) (oi := ⟨some 88, .move (.tmp 5), 54, "ref.go:377", #[], none⟩) rfl ?_; (try simp only [Act.put, List.setIfInBounds_toArray, List.set_cons_succ, List.set_cons_zero])
            refine tk (i := 2) (oi := ⟨some 89, .move (.tmp 9), 3, "ref.go:377", #[], none⟩) rfl ?_; (try simp only [Act.put, List.setIfInBounds_toArray, List.set_cons_succ, List.set_cons_zero])
            refine tk (i := 3) (oi := ⟨some 90, .indexAddr 54 (.tmp 88) (.tmp 89), 0, "ref.go:377", #[⟨1, .data⟩, ⟨2, .data⟩], none⟩) rfl ?_; (try simp only [Act.put, List.setIfInBounds_toArray, List.set_cons_succ, List.set_cons_zero])
            refine tk (i := 4) (oi := ⟨some 91, .load 9 (.tmp 90), 9, "ref.go:377", #[⟨3, .data⟩], none⟩) rfl ?_; (try simp only [Act.put, List.setIfInBounds_toArray, List.set_cons_succ, List.set_cons_zero])
            refine wpAnyH_ready (rs := [5]) (by kernel_rfl) (by simp) ?_
            refine AllReadyH.cons (o := ⟨some 92, .call { callee := .value (.func 35), args := #[.tmp 87, .tmp 91], argTypes := #[27, 9] }, 73, "ref.go:377", #[⟨0, .data⟩, ⟨4, .data⟩], none⟩) rfl (fun K hK => ?_) AllReadyH.nil
            go_simp
            (refine HRow.out.mono ?_; rintro e w5 ⟨rfl, hb5, hv5', hq5⟩; dsimp only at hq5; have hv5 : Var w5 Kp #[.slice P x.ps.length c1, .slice R1 x.rs.length c2, .slice V x.vals.length c3, .slice (some ⟨gB, 0, none⟩) (x.blocks.length + 1) d] 27 := hv5'; obtain ⟨⟨d0, d1, d2, d3⟩, -⟩ := cells4' hv5; have d4 := (hb5.cell (p := ⟨g, o + i, none⟩) hgb).trans f4w; have SS5 : (fun W' => W'.cell? ⟨Kp, 0, none⟩ = some (.slice P x.ps.length c1) ∧ W'.cell? ⟨Kp, 1, none⟩ = some (.slice R1 x.rs.length c2) ∧ W'.cell? ⟨Kp, 2, none⟩ = some (.slice V x.vals.length c3) ∧ W'.cell? ⟨Kp, 3, none⟩ = some (.slice (some ⟨gB, 0, none⟩) (x.blocks.length + 1) d) ∧ W'.cell? ⟨g, o + i, none⟩ = some (.string ⟨u.toArray⟩)) w5 := ⟨d0, d1, d2, d3, d4⟩; dsimp only at SS5; clear hv5')
            (try dsimp only)
            refine hK.out _ _ ?_ (fun hHeld1 => ?_)
            · first | trivial | ((try dsimp only); first | assumption | trivial | go_keep)
            clear hK K hHeld0
            (try simp only [Act.put, List.setIfInBounds_toArray, List.set_cons_succ, List.set_cons_zero])
            refine tk (i := 6) (oi := ⟨some 86, .move (.tmp 92), 73, "ref.go:377", #[⟨5, .data⟩], none⟩) rfl ?_; (try simp only [Act.put, List.setIfInBounds_toArray, List.set_cons_succ, List.set_cons_zero])
            refine tk (i := 7) (oi := ⟨some 93, .extract (.tmp 86) 0, 27, "ref.go:377", #[⟨6, .data⟩], none⟩) rfl ?_; (try simp only [Act.put, List.setIfInBounds_toArray, List.set_cons_succ, List.set_cons_zero])
            refine tk (i := 8) (oi := ⟨some 94, .extract (.tmp 86) 1, 4, "ref.go:377", #[⟨6, .data⟩, { on := 10, ground := .gcOnly Go.Departure.lateStores }], none⟩) rfl ?_; (try simp only [Act.put, List.setIfInBounds_toArray, List.set_cons_succ, List.set_cons_zero])
            refine tk (i := 9) (oi := ⟨some 95, .extract (.tmp 86) 2, 4, "ref.go:377", #[⟨6, .data⟩, { on := 11, ground := .gcOnly Go.Departure.lateStores }], none⟩) rfl ?_; (try simp only [Act.put, List.setIfInBounds_toArray, List.set_cons_succ, List.set_cons_zero])
            refine wpAnyH_ready (rs := [10]) (by kernel_rfl) (by simp) ?_
            refine AllReadyH.cons (o := ⟨none, .store 27 (.tmp 7) (.tmp 93), 0, "ref.go:377", #[⟨7, .data⟩, ⟨5, .chain⟩, ⟨0, .phase⟩, ⟨1, .phase⟩, ⟨2, .phase⟩, ⟨3, .phase⟩, ⟨4, .phase⟩, ⟨5, .phase⟩, ⟨6, .phase⟩, ⟨7, .phase⟩, { on := 8, ground := .textOnly Go.Departure.lateStores }, { on := 9, ground := .textOnly Go.Departure.lateStores }], none⟩) rfl (fun K hK => ?_) AllReadyH.nil
            (rw [if_pos (by rfl)]; refine wp_store_row 27 (.tmp 7) (.tmp 93) rfl Kp #[.slice P x.ps.length c1, .slice R1 x.rs.length c2, .slice V x.vals.length c3, .slice (some ⟨gB, 0, none⟩) (x.blocks.length + 1) d] rfl rfl 27 #[.slice P x.ps.length c1, .slice R1 x.rs.length c2, .slice V x.vals.length c3, .slice (some ⟨gB, 0, none⟩) (x.blocks.length + 1) d] hv5 info_ssa4 rfl (by simp [Value.oneCell']) ?_; have gS := setRow_grown w5 Kp #[.slice P x.ps.length c1, .slice R1 x.rs.length c2, .slice V x.vals.length c3, .slice (some ⟨gB, 0, none⟩) (x.blocks.length + 1) d]; have hv6 : Var (w5.setRow Kp #[.slice P x.ps.length c1, .slice R1 x.rs.length c2, .slice V x.vals.length c3, .slice (some ⟨gB, 0, none⟩) (x.blocks.length + 1) d]) Kp #[.slice P x.ps.length c1, .slice R1 x.rs.length c2, .slice V x.vals.length c3, .slice (some ⟨gB, 0, none⟩) (x.blocks.length + 1) d] 27 := setRow_heap w5 Kp #[.slice P x.ps.length c1, .slice R1 x.rs.length c2, .slice V x.vals.length c3, .slice (some ⟨gB, 0, none⟩) (x.blocks.length + 1) d] _ _ (0, 0) hv5; obtain ⟨⟨r0, r1, r2, r3⟩, -⟩ := cells4' hv6; have SS2 : (fun W' => W'.cell? ⟨Kp, 0, none⟩ = some (.slice P x.ps.length c1) ∧ W'.cell? ⟨Kp, 1, none⟩ = some (.slice R1 x.rs.length c2) ∧ W'.cell? ⟨Kp, 2, none⟩ = some (.slice V x.vals.length c3) ∧ W'.cell? ⟨Kp, 3, none⟩ = some (.slice (some ⟨gB, 0, none⟩) (x.blocks.length + 1) d) ∧ W'.cell? ⟨g, o + i, none⟩ = some (.string ⟨u.toArray⟩)) (w5.setRow Kp #[.slice P x.ps.length c1, .slice R1 x.rs.length c2, .slice V x.vals.length c3, .slice (some ⟨gB, 0, none⟩) (x.blocks.length + 1) d]) := ⟨r0, r1, r2, r3, gS.cell d4 (by simp; omega)⟩; dsimp only at SS2)
            (try dsimp only)
            refine hK.out _ _ ?_ (fun hHeld2 => ?_)
            · first | trivial | ((try dsimp only); first | assumption | trivial | go_keep)
            clear hK K hHeld1
            (try simp only [Act.put, List.setIfInBounds_toArray, List.set_cons_succ, List.set_cons_zero])
            refine tk (i := 11) (oi := ⟨some 8, .assign (.tmp 94), 4, "ref.go:377", #[⟨8, .data⟩, ⟨10, .chain⟩, ⟨0, .phase⟩, ⟨1, .phase⟩, ⟨2, .phase⟩, ⟨3, .phase⟩, ⟨4, .phase⟩, ⟨5, .phase⟩, ⟨6, .phase⟩, ⟨7, .phase⟩, ⟨8, .phase⟩, { on := 9, ground := .textOnly Go.Departure.lateStores }, ⟨10, .phase⟩], none⟩) rfl ?_; (try simp only [Act.put, List.setIfInBounds_toArray, List.set_cons_succ, List.set_cons_zero])
            refine tk (i := 12) (oi := ⟨some 10, .assign (.tmp 95), 4, "ref.go:377", #[⟨9, .data⟩, ⟨11, .chain⟩, ⟨0, .phase⟩, ⟨1, .phase⟩, ⟨2, .phase⟩, ⟨3, .phase⟩, ⟨4, .phase⟩, ⟨5, .phase⟩, ⟨6, .phase⟩, ⟨7, .phase⟩, ⟨8, .phase⟩, ⟨9, .phase⟩, ⟨10, .phase⟩, ⟨11, .phase⟩], none⟩) rfl ?_; (try simp only [Act.put, List.setIfInBounds_toArray, List.set_cons_succ, List.set_cons_zero])
            refine wpAnyH_done (by kernel_rfl) ?_ _
            (try dsimp only)
            have HA9 : Hid (Below w2.heap.size w2 (w5.setRow Kp #[.slice P x.ps.length c1, .slice R1 x.rs.length c2, .slice V x.vals.length c3, .slice (some ⟨gB, 0, none⟩) (x.blocks.length + 1) d])) := Lib.hid (below_grown hb5 (setRow_grown _ _ _) hb5.size (Nat.le_of_eq HK.out))
            go_upto_region 26 with fail
            refine at_code (F := fun W => Hid (Below w2.heap.size w2 W)) HA9 ?_
            clear HA9 SS5 SS2 gS hv5 hq5 hb5
            rintro W9 HP9
            have hB9 := HP9.out
            have HV5 := Lib.hid (var_keep HV2.out hB9)
            have HB5 := Lib.hid (HB2.out.trans (hB9.mono HB2.out.size))
            clear hB9 HP9
            obtain ⟨⟨q0, q1, q2, q3⟩, s0, s1, s2, s3⟩ := cells4' HV5.out
            have hl5 := HV5.out.lt
            go_wp2_with fail
            have gE := put4 HV5.out (.slice none 0 0) (.slice none 0 0) (.slice none 0 0) (.slice none 0 0)
            refine bodyPost_ret (results_cell_2 rfl _ _ w.heap.size _ #[.slice none 0 0, .slice none 0 0, .slice none 0 0, .slice none 0 0] (0, 0) _ rfl gE.1 Tryz.underlying27 rfl (by kernel_rfl)) rfl ?_
            obtain rfl := HR2.out
            exact ⟨⟨fun _ => True, none, 0, none, 0, none, 0, none, 0, rfl, ssa_empty⟩, below_grown HB5.out gE.2 HB5.out.size (Nat.le_refl _)⟩
          · have HR2 := Lib.hid hR2
            have hin := hq _ rfl
            clear hR2 hq
            have SS : (fun W' => W'.cell? ⟨Kp, 0, none⟩ = some (.slice P x.ps.length c1) ∧ W'.cell? ⟨Kp, 1, none⟩ = some (.slice R1 x.rs.length c2) ∧ W'.cell? ⟨Kp, 2, none⟩ = some (.slice V x.vals.length c3) ∧ W'.cell? ⟨Kp, 3, none⟩ = some (.slice (some ⟨gB, 0, none⟩) (x.blocks.length + 1) d) ∧ W'.cell? ⟨g, o + i, none⟩ = some (.string ⟨u.toArray⟩)) (World.drew wr) := ⟨c0_, c1_, c2_, c3_, f4⟩
            dsimp only at SS
            refine wp_region_held_drew (S := (fun W' => W'.cell? ⟨Kp, 0, none⟩ = some (.slice P x.ps.length c1) ∧ W'.cell? ⟨Kp, 1, none⟩ = some (.slice R1 x.rs.length c2) ∧ W'.cell? ⟨Kp, 2, none⟩ = some (.slice V x.vals.length c3) ∧ W'.cell? ⟨Kp, 3, none⟩ = some (.slice (some ⟨gB, 0, none⟩) (x.blocks.length + 1) d) ∧ W'.cell? ⟨g, o + i, none⟩ = some (.string ⟨u.toArray⟩))) (by kernel_rfl) ?_ (fun hHeld0 => ?_)
            · first | assumption | go_keep
            refine tk (i := 0) (oi := ⟨some 87, .load 27 (.tmp 7), 27, "ref.go:377", #[], none⟩) rfl ?_; (try simp only [Act.put, List.setIfInBounds_toArray, List.set_cons_succ, List.set_cons_zero])
            refine tk (i := 1) (oi := ⟨some 88, .move (.tmp 5), 54, "ref.go:377", #[], none⟩) rfl ?_; (try simp only [Act.put, List.setIfInBounds_toArray, List.set_cons_succ, List.set_cons_zero])
            refine tk (i := 2) (oi := ⟨some 89, .move (.tmp 9), 3, "ref.go:377", #[], none⟩) rfl ?_; (try simp only [Act.put, List.setIfInBounds_toArray, List.set_cons_succ, List.set_cons_zero])
            refine tk (i := 3) (oi := ⟨some 90, .indexAddr 54 (.tmp 88) (.tmp 89), 0, "ref.go:377", #[⟨1, .data⟩, ⟨2, .data⟩], none⟩) rfl ?_; (try simp only [Act.put, List.setIfInBounds_toArray, List.set_cons_succ, List.set_cons_zero])
            refine tk (i := 4) (oi := ⟨some 91, .load 9 (.tmp 90), 9, "ref.go:377", #[⟨3, .data⟩], none⟩) rfl ?_; (try simp only [Act.put, List.setIfInBounds_toArray, List.set_cons_succ, List.set_cons_zero])
            refine wpAnyH_ready (rs := [5]) (by kernel_rfl) (by simp) ?_
            refine AllReadyH.cons (o := ⟨some 92, .call { callee := .value (.func 35), args := #[.tmp 87, .tmp 91], argTypes := #[27, 9] }, 73, "ref.go:377", #[⟨0, .data⟩, ⟨4, .data⟩], none⟩) rfl (fun K hK => ?_) AllReadyH.nil
            go_simp
            (refine HRow.out.mono ?_; rintro e w5 ⟨rfl, hb5, hv5', hq5⟩; dsimp only at hq5; have hv5 : Var w5 Kp #[.slice P x.ps.length c1, .slice R1 x.rs.length c2, .slice V x.vals.length c3, .slice (some ⟨gB, 0, none⟩) (x.blocks.length + 1) d] 27 := hv5'; obtain ⟨⟨d0, d1, d2, d3⟩, -⟩ := cells4' hv5; have d4 := (hb5.cell (p := ⟨g, o + i, none⟩) hgb).trans f4w; have SS5 : (fun W' => W'.cell? ⟨Kp, 0, none⟩ = some (.slice P x.ps.length c1) ∧ W'.cell? ⟨Kp, 1, none⟩ = some (.slice R1 x.rs.length c2) ∧ W'.cell? ⟨Kp, 2, none⟩ = some (.slice V x.vals.length c3) ∧ W'.cell? ⟨Kp, 3, none⟩ = some (.slice (some ⟨gB, 0, none⟩) (x.blocks.length + 1) d) ∧ W'.cell? ⟨g, o + i, none⟩ = some (.string ⟨u.toArray⟩)) w5 := ⟨d0, d1, d2, d3, d4⟩; dsimp only at SS5; clear hv5')
            (try dsimp only)
            refine hK.out _ _ ?_ (fun hHeld1 => ?_)
            · first | trivial | ((try dsimp only); first | assumption | trivial | go_keep)
            clear hK K hHeld0
            (try simp only [Act.put, List.setIfInBounds_toArray, List.set_cons_succ, List.set_cons_zero])
            refine tk (i := 6) (oi := ⟨some 86, .move (.tmp 92), 73, "ref.go:377", #[⟨5, .data⟩], none⟩) rfl ?_; (try simp only [Act.put, List.setIfInBounds_toArray, List.set_cons_succ, List.set_cons_zero])
            refine tk (i := 7) (oi := ⟨some 93, .extract (.tmp 86) 0, 27, "ref.go:377", #[⟨6, .data⟩], none⟩) rfl ?_; (try simp only [Act.put, List.setIfInBounds_toArray, List.set_cons_succ, List.set_cons_zero])
            refine tk (i := 8) (oi := ⟨some 94, .extract (.tmp 86) 1, 4, "ref.go:377", #[⟨6, .data⟩, { on := 10, ground := .gcOnly Go.Departure.lateStores }], none⟩) rfl ?_; (try simp only [Act.put, List.setIfInBounds_toArray, List.set_cons_succ, List.set_cons_zero])
            refine tk (i := 9) (oi := ⟨some 95, .extract (.tmp 86) 2, 4, "ref.go:377", #[⟨6, .data⟩, { on := 11, ground := .gcOnly Go.Departure.lateStores }], none⟩) rfl ?_; (try simp only [Act.put, List.setIfInBounds_toArray, List.set_cons_succ, List.set_cons_zero])
            refine wpAnyH_ready (rs := [10]) (by kernel_rfl) (by simp) ?_
            refine AllReadyH.cons (o := ⟨none, .store 27 (.tmp 7) (.tmp 93), 0, "ref.go:377", #[⟨7, .data⟩, ⟨5, .chain⟩, ⟨0, .phase⟩, ⟨1, .phase⟩, ⟨2, .phase⟩, ⟨3, .phase⟩, ⟨4, .phase⟩, ⟨5, .phase⟩, ⟨6, .phase⟩, ⟨7, .phase⟩, { on := 8, ground := .textOnly Go.Departure.lateStores }, { on := 9, ground := .textOnly Go.Departure.lateStores }], none⟩) rfl (fun K hK => ?_) AllReadyH.nil
            (rw [if_pos (by rfl)]; refine wp_store_row 27 (.tmp 7) (.tmp 93) rfl Kp #[.slice P x.ps.length c1, .slice R1 x.rs.length c2, .slice V x.vals.length c3, .slice (some ⟨gB, 0, none⟩) (x.blocks.length + 1) d] rfl rfl 27 #[.slice P x.ps.length c1, .slice R1 x.rs.length c2, .slice V x.vals.length c3, .slice (some ⟨gB, 0, none⟩) (x.blocks.length + 1) d] hv5 info_ssa4 rfl (by simp [Value.oneCell']) ?_; have gS := setRow_grown w5 Kp #[.slice P x.ps.length c1, .slice R1 x.rs.length c2, .slice V x.vals.length c3, .slice (some ⟨gB, 0, none⟩) (x.blocks.length + 1) d]; have hv6 : Var (w5.setRow Kp #[.slice P x.ps.length c1, .slice R1 x.rs.length c2, .slice V x.vals.length c3, .slice (some ⟨gB, 0, none⟩) (x.blocks.length + 1) d]) Kp #[.slice P x.ps.length c1, .slice R1 x.rs.length c2, .slice V x.vals.length c3, .slice (some ⟨gB, 0, none⟩) (x.blocks.length + 1) d] 27 := setRow_heap w5 Kp #[.slice P x.ps.length c1, .slice R1 x.rs.length c2, .slice V x.vals.length c3, .slice (some ⟨gB, 0, none⟩) (x.blocks.length + 1) d] _ _ (0, 0) hv5; obtain ⟨⟨r0, r1, r2, r3⟩, -⟩ := cells4' hv6; have SS2 : (fun W' => W'.cell? ⟨Kp, 0, none⟩ = some (.slice P x.ps.length c1) ∧ W'.cell? ⟨Kp, 1, none⟩ = some (.slice R1 x.rs.length c2) ∧ W'.cell? ⟨Kp, 2, none⟩ = some (.slice V x.vals.length c3) ∧ W'.cell? ⟨Kp, 3, none⟩ = some (.slice (some ⟨gB, 0, none⟩) (x.blocks.length + 1) d) ∧ W'.cell? ⟨g, o + i, none⟩ = some (.string ⟨u.toArray⟩)) (w5.setRow Kp #[.slice P x.ps.length c1, .slice R1 x.rs.length c2, .slice V x.vals.length c3, .slice (some ⟨gB, 0, none⟩) (x.blocks.length + 1) d]) := ⟨r0, r1, r2, r3, gS.cell d4 (by simp; omega)⟩; dsimp only at SS2)
            (try dsimp only)
            refine hK.out _ _ ?_ (fun hHeld2 => ?_)
            · first | trivial | ((try dsimp only); first | assumption | trivial | go_keep)
            clear hK K hHeld1
            (try simp only [Act.put, List.setIfInBounds_toArray, List.set_cons_succ, List.set_cons_zero])
            refine tk (i := 11) (oi := ⟨some 8, .assign (.tmp 94), 4, "ref.go:377", #[⟨8, .data⟩, ⟨10, .chain⟩, ⟨0, .phase⟩, ⟨1, .phase⟩, ⟨2, .phase⟩, ⟨3, .phase⟩, ⟨4, .phase⟩, ⟨5, .phase⟩, ⟨6, .phase⟩, ⟨7, .phase⟩, ⟨8, .phase⟩, { on := 9, ground := .textOnly Go.Departure.lateStores }, ⟨10, .phase⟩], none⟩) rfl ?_; (try simp only [Act.put, List.setIfInBounds_toArray, List.set_cons_succ, List.set_cons_zero])
            refine tk (i := 12) (oi := ⟨some 10, .assign (.tmp 95), 4, "ref.go:377", #[⟨9, .data⟩, ⟨11, .chain⟩, ⟨0, .phase⟩, ⟨1, .phase⟩, ⟨2, .phase⟩, ⟨3, .phase⟩, ⟨4, .phase⟩, ⟨5, .phase⟩, ⟨6, .phase⟩, ⟨7, .phase⟩, ⟨8, .phase⟩, ⟨9, .phase⟩, ⟨10, .phase⟩, ⟨11, .phase⟩], none⟩) rfl ?_; (try simp only [Act.put, List.setIfInBounds_toArray, List.set_cons_succ, List.set_cons_zero])
            refine wpAnyH_done (by kernel_rfl) ?_ _
            (try dsimp only)
            have HA9 : Hid (RP w2 (w5.setRow Kp #[.slice P x.ps.length c1, .slice R1 x.rs.length c2, .slice V x.vals.length c3, .slice (some ⟨gB, 0, none⟩) (x.blocks.length + 1) d]) Kp (.op x params (ins ++ [y]))) := Lib.hid ⟨P, c1, R1, c2, V, c3, gB, d, QOp.re hq5 (setRow_heap w5 Kp #[.slice P x.ps.length c1, .slice R1 x.rs.length c2, .slice V x.vals.length c3, .slice (some ⟨gB, 0, none⟩) (x.blocks.length + 1) d] _ _ (0, 0) hv5) (setRow_grown _ _ _)⟩
            go_wp2_with fail
            go_roundw
            case rel => exact ⟨i + 1, .op x params (ins ++ [y]), rfl, by go_num, by omega, HA9, hin, HR2⟩
            case measure => simp [intOf]; omega
        · obtain rfl : yb = false := hnb rfl
          simp only [if_true, Bool.false_eq_true, if_false] at hR2 hq
          have HR2 := Lib.hid hR2
          have hin := hq _ rfl
          clear hR2 hq
          have SS : (fun W' => W'.cell? ⟨Kp, 0, none⟩ = some (.slice P x.ps.length c1) ∧ W'.cell? ⟨Kp, 1, none⟩ = some (.slice R1 x.rs.length c2) ∧ W'.cell? ⟨Kp, 2, none⟩ = some (.slice V x.vals.length c3) ∧ W'.cell? ⟨Kp, 3, none⟩ = some (.slice (some ⟨gB, 0, none⟩) (x.blocks.length + 1) d) ∧ W'.cell? ⟨g, o + i, none⟩ = some (.string ⟨u.toArray⟩)) (World.drew wr) := ⟨c0_, c1_, c2_, c3_, f4⟩
          dsimp only at SS
          refine wp_region_held_drew (S := (fun W' => W'.cell? ⟨Kp, 0, none⟩ = some (.slice P x.ps.length c1) ∧ W'.cell? ⟨Kp, 1, none⟩ = some (.slice R1 x.rs.length c2) ∧ W'.cell? ⟨Kp, 2, none⟩ = some (.slice V x.vals.length c3) ∧ W'.cell? ⟨Kp, 3, none⟩ = some (.slice (some ⟨gB, 0, none⟩) (x.blocks.length + 1) d) ∧ W'.cell? ⟨g, o + i, none⟩ = some (.string ⟨u.toArray⟩))) (by kernel_rfl) ?_ (fun hHeld0 => ?_)
          · first | assumption | go_keep
          refine tk (i := 0) (oi := ⟨some 87, .load 27 (.tmp 7), 27, "ref.go:377", #[], none⟩) rfl ?_; (try simp only [Act.put, List.setIfInBounds_toArray, List.set_cons_succ, List.set_cons_zero])
          refine tk (i := 1) (oi := ⟨some 88, .move (.tmp 5), 54, "ref.go:377", #[], none⟩) rfl ?_; (try simp only [Act.put, List.setIfInBounds_toArray, List.set_cons_succ, List.set_cons_zero])
          refine tk (i := 2) (oi := ⟨some 89, .move (.tmp 9), 3, "ref.go:377", #[], none⟩) rfl ?_; (try simp only [Act.put, List.setIfInBounds_toArray, List.set_cons_succ, List.set_cons_zero])
          refine tk (i := 3) (oi := ⟨some 90, .indexAddr 54 (.tmp 88) (.tmp 89), 0, "ref.go:377", #[⟨1, .data⟩, ⟨2, .data⟩], none⟩) rfl ?_; (try simp only [Act.put, List.setIfInBounds_toArray, List.set_cons_succ, List.set_cons_zero])
          refine tk (i := 4) (oi := ⟨some 91, .load 9 (.tmp 90), 9, "ref.go:377", #[⟨3, .data⟩], none⟩) rfl ?_; (try simp only [Act.put, List.setIfInBounds_toArray, List.set_cons_succ, List.set_cons_zero])
          refine wpAnyH_ready (rs := [5]) (by kernel_rfl) (by simp) ?_
          refine AllReadyH.cons (o := ⟨some 92, .call { callee := .value (.func 35), args := #[.tmp 87, .tmp 91], argTypes := #[27, 9] }, 73, "ref.go:377", #[⟨0, .data⟩, ⟨4, .data⟩], none⟩) rfl (fun K hK => ?_) AllReadyH.nil
          go_simp
          (refine HRow.out.mono ?_; rintro e w5 ⟨rfl, hb5, hv5', hq5⟩; dsimp only at hq5; have hv5 : Var w5 Kp #[.slice P x.ps.length c1, .slice R1 x.rs.length c2, .slice V x.vals.length c3, .slice (some ⟨gB, 0, none⟩) (x.blocks.length + 1) d] 27 := hv5'; obtain ⟨⟨d0, d1, d2, d3⟩, -⟩ := cells4' hv5; have d4 := (hb5.cell (p := ⟨g, o + i, none⟩) hgb).trans f4w; have SS5 : (fun W' => W'.cell? ⟨Kp, 0, none⟩ = some (.slice P x.ps.length c1) ∧ W'.cell? ⟨Kp, 1, none⟩ = some (.slice R1 x.rs.length c2) ∧ W'.cell? ⟨Kp, 2, none⟩ = some (.slice V x.vals.length c3) ∧ W'.cell? ⟨Kp, 3, none⟩ = some (.slice (some ⟨gB, 0, none⟩) (x.blocks.length + 1) d) ∧ W'.cell? ⟨g, o + i, none⟩ = some (.string ⟨u.toArray⟩)) w5 := ⟨d0, d1, d2, d3, d4⟩; dsimp only at SS5; clear hv5')
          (try dsimp only)
          refine hK.out _ _ ?_ (fun hHeld1 => ?_)
          · first | trivial | ((try dsimp only); first | assumption | trivial | go_keep)
          clear hK K hHeld0
          (try simp only [Act.put, List.setIfInBounds_toArray, List.set_cons_succ, List.set_cons_zero])
          refine tk (i := 6) (oi := ⟨some 86, .move (.tmp 92), 73, "ref.go:377", #[⟨5, .data⟩], none⟩) rfl ?_; (try simp only [Act.put, List.setIfInBounds_toArray, List.set_cons_succ, List.set_cons_zero])
          refine tk (i := 7) (oi := ⟨some 93, .extract (.tmp 86) 0, 27, "ref.go:377", #[⟨6, .data⟩], none⟩) rfl ?_; (try simp only [Act.put, List.setIfInBounds_toArray, List.set_cons_succ, List.set_cons_zero])
          refine tk (i := 8) (oi := ⟨some 94, .extract (.tmp 86) 1, 4, "ref.go:377", #[⟨6, .data⟩, { on := 10, ground := .gcOnly Go.Departure.lateStores }], none⟩) rfl ?_; (try simp only [Act.put, List.setIfInBounds_toArray, List.set_cons_succ, List.set_cons_zero])
          refine tk (i := 9) (oi := ⟨some 95, .extract (.tmp 86) 2, 4, "ref.go:377", #[⟨6, .data⟩, { on := 11, ground := .gcOnly Go.Departure.lateStores }], none⟩) rfl ?_; (try simp only [Act.put, List.setIfInBounds_toArray, List.set_cons_succ, List.set_cons_zero])
          refine wpAnyH_ready (rs := [10]) (by kernel_rfl) (by simp) ?_
          refine AllReadyH.cons (o := ⟨none, .store 27 (.tmp 7) (.tmp 93), 0, "ref.go:377", #[⟨7, .data⟩, ⟨5, .chain⟩, ⟨0, .phase⟩, ⟨1, .phase⟩, ⟨2, .phase⟩, ⟨3, .phase⟩, ⟨4, .phase⟩, ⟨5, .phase⟩, ⟨6, .phase⟩, ⟨7, .phase⟩, { on := 8, ground := .textOnly Go.Departure.lateStores }, { on := 9, ground := .textOnly Go.Departure.lateStores }], none⟩) rfl (fun K hK => ?_) AllReadyH.nil
          (rw [if_pos (by rfl)]; refine wp_store_row 27 (.tmp 7) (.tmp 93) rfl Kp #[.slice P x.ps.length c1, .slice R1 x.rs.length c2, .slice V x.vals.length c3, .slice (some ⟨gB, 0, none⟩) (x.blocks.length + 1) d] rfl rfl 27 #[.slice P x.ps.length c1, .slice R1 x.rs.length c2, .slice V x.vals.length c3, .slice (some ⟨gB, 0, none⟩) (x.blocks.length + 1) d] hv5 info_ssa4 rfl (by simp [Value.oneCell']) ?_; have gS := setRow_grown w5 Kp #[.slice P x.ps.length c1, .slice R1 x.rs.length c2, .slice V x.vals.length c3, .slice (some ⟨gB, 0, none⟩) (x.blocks.length + 1) d]; have hv6 : Var (w5.setRow Kp #[.slice P x.ps.length c1, .slice R1 x.rs.length c2, .slice V x.vals.length c3, .slice (some ⟨gB, 0, none⟩) (x.blocks.length + 1) d]) Kp #[.slice P x.ps.length c1, .slice R1 x.rs.length c2, .slice V x.vals.length c3, .slice (some ⟨gB, 0, none⟩) (x.blocks.length + 1) d] 27 := setRow_heap w5 Kp #[.slice P x.ps.length c1, .slice R1 x.rs.length c2, .slice V x.vals.length c3, .slice (some ⟨gB, 0, none⟩) (x.blocks.length + 1) d] _ _ (0, 0) hv5; obtain ⟨⟨r0, r1, r2, r3⟩, -⟩ := cells4' hv6; have SS2 : (fun W' => W'.cell? ⟨Kp, 0, none⟩ = some (.slice P x.ps.length c1) ∧ W'.cell? ⟨Kp, 1, none⟩ = some (.slice R1 x.rs.length c2) ∧ W'.cell? ⟨Kp, 2, none⟩ = some (.slice V x.vals.length c3) ∧ W'.cell? ⟨Kp, 3, none⟩ = some (.slice (some ⟨gB, 0, none⟩) (x.blocks.length + 1) d) ∧ W'.cell? ⟨g, o + i, none⟩ = some (.string ⟨u.toArray⟩)) (w5.setRow Kp #[.slice P x.ps.length c1, .slice R1 x.rs.length c2, .slice V x.vals.length c3, .slice (some ⟨gB, 0, none⟩) (x.blocks.length + 1) d]) := ⟨r0, r1, r2, r3, gS.cell d4 (by simp; omega)⟩; dsimp only at SS2)
          (try dsimp only)
          refine hK.out _ _ ?_ (fun hHeld2 => ?_)
          · first | trivial | ((try dsimp only); first | assumption | trivial | go_keep)
          clear hK K hHeld1
          (try simp only [Act.put, List.setIfInBounds_toArray, List.set_cons_succ, List.set_cons_zero])
          refine tk (i := 11) (oi := ⟨some 8, .assign (.tmp 94), 4, "ref.go:377", #[⟨8, .data⟩, ⟨10, .chain⟩, ⟨0, .phase⟩, ⟨1, .phase⟩, ⟨2, .phase⟩, ⟨3, .phase⟩, ⟨4, .phase⟩, ⟨5, .phase⟩, ⟨6, .phase⟩, ⟨7, .phase⟩, ⟨8, .phase⟩, { on := 9, ground := .textOnly Go.Departure.lateStores }, ⟨10, .phase⟩], none⟩) rfl ?_; (try simp only [Act.put, List.setIfInBounds_toArray, List.set_cons_succ, List.set_cons_zero])
          refine tk (i := 12) (oi := ⟨some 10, .assign (.tmp 95), 4, "ref.go:377", #[⟨9, .data⟩, ⟨11, .chain⟩, ⟨0, .phase⟩, ⟨1, .phase⟩, ⟨2, .phase⟩, ⟨3, .phase⟩, ⟨4, .phase⟩, ⟨5, .phase⟩, ⟨6, .phase⟩, ⟨7, .phase⟩, ⟨8, .phase⟩, ⟨9, .phase⟩, ⟨10, .phase⟩, ⟨11, .phase⟩], none⟩) rfl ?_; (try simp only [Act.put, List.setIfInBounds_toArray, List.set_cons_succ, List.set_cons_zero])
          refine wpAnyH_done (by kernel_rfl) ?_ _
          (try dsimp only)
          have HA9 : Hid (RP w2 (w5.setRow Kp #[.slice P x.ps.length c1, .slice R1 x.rs.length c2, .slice V x.vals.length c3, .slice (some ⟨gB, 0, none⟩) (x.blocks.length + 1) d]) Kp (.cl ⟨x.ps, x.rs, x.vals, x.blocks ++ [⟨params, ins, f⟩]⟩)) := Lib.hid ⟨P, c1, R1, c2, V, c3, some ⟨gB, 0, none⟩, d, by rw [show (x.blocks ++ [(⟨params, ins, f⟩ : St.Blk)]).length = x.blocks.length + 1 by simp]; exact QCl.re hq5 (setRow_heap w5 Kp #[.slice P x.ps.length c1, .slice R1 x.rs.length c2, .slice V x.vals.length c3, .slice (some ⟨gB, 0, none⟩) (x.blocks.length + 1) d] _ _ (0, 0) hv5) (setRow_grown _ _ _)⟩
          go_wp2_with fail
          go_roundw
          case rel => exact ⟨i + 1, .cl ⟨x.ps, x.rs, x.vals, x.blocks ++ [⟨params, ins, f⟩]⟩, rfl, by go_num, by omega, HA9, hin, HR2⟩
          case measure => simp [intOf]; omega
    · have hi2 : i = I.length := by omega
      -- PART pend
      subst hi2
      have hR2 := hR.out
      rw [List.drop_length, St.runR] at hR2
      have hzl : I.length < (I ++ [z]).length := by simp
      obtain ⟨g', o', hgo, -, e1⟩ := (hrd.below hB).get hzl
      cases hgo
      have f4 := e1 0 _ rfl
      rw [Nat.add_zero, Nat.mul_one, List.getElem_append_right (Nat.le_refl _)] at f4
      simp only [Nat.sub_self, List.getElem_cons_zero] at f4
      have x3 : ¬ (I.length : Int) < (I.length : Int) := by omega
      have x5 : (I.length : Int) < (I.length : Int) + 1 := by omega
      have HR2 := Lib.hid hR2
      clear hR2 hR e1 hzl hIn
      go_upto_region 28 with fail
      refine at_code (F := fun W => Hid (RP w2 W Kp p) ∧ W.cell? ⟨g, o + I.length, none⟩ = some (.string ⟨z.toArray⟩)) ⟨hP, f4⟩ ?_
      clear hP f4 hB hrd hK2 hgb x3 y1 hi hia
      rintro W ⟨hP, f4⟩
      have hB := hP.out.bel
      have HV5 := Lib.hid (var_keep HV2.out hB)
      have HB5 := Lib.hid (HB2.out.trans (hB.mono HB2.out.size))
      obtain ⟨⟨k0, k1, k2, k3⟩, l0, l1, l2, l3⟩ := cells4' HV5.out
      have hl5 := HV5.out.lt
      clear hB
      have hlz : (I ++ [z]).getLast? = some z := by simp
      have HLZ := Lib.hid hlz
      clear hlz
      by_cases hz : z = []
      · subst hz
        by_cases h2 : I.length < 2
        · have hER : Hid (R = (St.empty, ((I.length : Int) + 1, (4 : Int)))) := Lib.hid (by rw [← HR2.out]; cases p <;> simp [St.finishO]; omega)
          have x9 : (I.length : Int) < 2 := by omega
          clear HR2 hP h2
          go_wp2_with fail
          have gE := put4 HV5.out (.slice none 0 0) (.slice none 0 0) (.slice none 0 0) (.slice none 0 0)
          refine bodyPost_ret (results_cell_2 rfl _ _ w.heap.size _ #[.slice none 0 0, .slice none 0 0, .slice none 0 0, .slice none 0 0] (0, 0) _ rfl gE.1 Tryz.underlying27 rfl (by kernel_rfl)) rfl ?_
          exact ⟨⟨fun _ => True, none, 0, none, 0, none, 0, none, 0, by rw [hER.out]; rfl, by rw [hER.out]; exact ssa_empty⟩, below_grown HB5.out gE.2 HB5.out.size (Nat.le_refl _)⟩
        have x9 : ¬ (I.length : Int) < 2 := by omega
        cases p with
        | op x params ins =>
          have hER : Hid (R = (St.empty, ((I.length : Int) + 1, (4 : Int)))) := Lib.hid (by rw [← HR2.out]; simp [St.finishO])
          clear HR2 hP h2
          dsimp only [St.PS.isOp]
          go_wp2_with fail
          have gE := put4 HV5.out (.slice none 0 0) (.slice none 0 0) (.slice none 0 0) (.slice none 0 0)
          refine bodyPost_ret (results_cell_2 rfl _ _ w.heap.size _ #[.slice none 0 0, .slice none 0 0, .slice none 0 0, .slice none 0 0] (0, 0) _ rfl gE.1 Tryz.underlying27 rfl (by kernel_rfl)) rfl ?_
          exact ⟨⟨fun _ => True, none, 0, none, 0, none, 0, none, 0, by rw [hER.out]; rfl, by rw [hER.out]; exact ssa_empty⟩, below_grown HB5.out gE.2 HB5.out.size (Nat.le_refl _)⟩
        | cl x =>
          obtain rfl : R = (x, ((0 : Int), (0 : Int))) := by rw [← HR2.out]; simp [St.finishO]; omega
          obtain ⟨P, e1, R1, e2, V, e3, B, d, hQ⟩ := hP.out
          obtain ⟨⟨m0, m1, m2, m3⟩, -⟩ := cells4' (show Var W Kp #[.slice P x.ps.length e1, .slice R1 x.rs.length e2, .slice V x.vals.length e3, .slice B x.blocks.length d] 27 from hQ.bel.2)
          have HSS := Lib.hid hQ.ssa
          clear HR2 hP h2 hQ
          dsimp only [St.PS.isOp]
          go_wp2_with fail
          have gE := put4 HV5.out (.slice P x.ps.length e1) (.slice R1 x.rs.length e2) (.slice V x.vals.length e3) (.slice B x.blocks.length d)
          refine bodyPost_ret (results_cell_2 rfl _ _ w.heap.size _ #[.slice P x.ps.length e1, .slice R1 x.rs.length e2, .slice V x.vals.length e3, .slice B x.blocks.length d] (0, 0) _ rfl gE.1 Tryz.underlying27 rfl (by kernel_rfl)) rfl ?_
          have hlk : w.heap.size < Kp := by rw [← HK.out]; exact HV2.out.lt
          exact ⟨⟨_, P, e1, R1, e2, V, e3, B, d, rfl, HSS.out.keep (keep_grown gE.2 (by omega)) gE.2.size⟩, below_grown HB5.out gE.2 HB5.out.size (Nat.le_refl _)⟩
      · have hER : Hid (R = (St.empty, ((I.length : Int) + 1, (4 : Int)))) := Lib.hid (by rw [← HR2.out]; cases p <;> simp [St.finishO, hz])
        have hq := bne_no hz
        have hq2 := beq_no hz
        have hq3 : List.isEmpty z = false := by simpa using hz
        have hq4 : (z == []) = false := by simpa using hz
        clear HR2 hP hz
        go_wp2_with fail
        have gE := put4 HV5.out (.slice none 0 0) (.slice none 0 0) (.slice none 0 0) (.slice none 0 0)
        refine bodyPost_ret (results_cell_2 rfl _ _ w.heap.size _ #[.slice none 0 0, .slice none 0 0, .slice none 0 0, .slice none 0 0] (0, 0) _ rfl gE.1 Tryz.underlying27 rfl (by kernel_rfl)) rfl ?_
        exact ⟨⟨fun _ => True, none, 0, none, 0, none, 0, none, 0, by rw [hER.out]; rfl, by rw [hER.out]; exact ssa_empty⟩, below_grown HB5.out gE.2 HB5.out.size (Nat.le_refl _)⟩
end Go.Proofs.YtmhmpobjjhbklaaGreatDoor
