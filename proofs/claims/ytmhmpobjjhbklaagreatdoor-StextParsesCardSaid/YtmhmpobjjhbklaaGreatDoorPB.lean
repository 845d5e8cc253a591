/-
  Layer 40: Any line, Parse; Parse inverts Print and Print inverts Parse; sizes.
-/
import Derived.Test.YtmhmpobjjhbklaaGreatDoorPA
set_option linter.unusedVariables false
set_option linter.unusedSimpArgs false
namespace Go.Proofs.YtmhmpobjjhbklaaGreatDoor
namespace St
inductive PS where
  | cl (x : Ssa)
  | op (x : Ssa) (params : List Int) (ins : List Ins)
def empty : Ssa := ⟨[], [], [], []⟩
def stepO (i : Nat) (p : PS) (s : W) : Option PS :=
  match i, p with
  | 0, .cl x => if line1B s then some (.cl ⟨(typeP s).1.1, (typeP s).1.2, [], []⟩) else none
  | 1, .cl x => if line2B s then some (.cl ⟨x.ps, x.rs, (valsP (Lib.fieldsD s).tail).1, []⟩) else none
  | i + 2, .cl x => if (blockP s).2 then some (.op x (blockP s).1 []) else none
  | i, .op x params ins => if (finP s).2 then some (.cl ⟨x.ps, x.rs, x.vals, x.blocks ++ [⟨params, ins, (finP s).1⟩]⟩) else if (insP s).2 then some (.op x params (ins ++ [(insP s).1])) else none
def runO (i : Nat) (p : PS) : List W → Nat ⊕ PS
  | [] => .inr p
  | s :: t => match stepO i p s with
    | none => .inl i
    | some q => runO (i + 1) q t
def finishO (l : List W) : Nat ⊕ PS → Ssa × Int × Int
  | .inl i => (empty, (i : Int) + 1, 4)
  | .inr (.cl x) => if l.getLast? = some [] ∧ 3 ≤ l.length then (x, 0, 0) else (empty, l.length, 4)
  | .inr (.op _ _ _) => (empty, l.length, 4)
def parseO (s : W) : Ssa × Int × Int := finishO (Lib.split s [10]) (runO 0 (.cl empty) (Lib.split s [10]).dropLast)
/-- What a line may be. -/
structure LnOk (s : W) : Prop where
  len : s.length ≤ 900000
  words : (Lib.fieldsD s).length ≤ 5000
  types : (typeP s).1.1.length ≤ 5000 ∧ (typeP s).1.2.length ≤ 5000
/-- What the state may be when i lines are read. -/
def PS.In (i : Nat) : PS → Prop
  | .cl x => (i = 0 → x = empty) ∧ (i = 1 → x.vals = [] ∧ x.blocks = []) ∧ x.blocks.length ≤ i
  | .op x _ ins => 3 ≤ i ∧ x.blocks.length + ins.length ≤ i
theorem stepO_in {i : Nat} {p q : PS} {s : W} (h : p.In i) (hs : stepO i p s = some q) : q.In (i + 1) := by
  cases p with
  | cl x =>
    obtain ⟨h0, h1, h2⟩ := h
    match i with
    | 0 =>
      simp only [stepO] at hs
      split at hs
      · cases hs; exact ⟨by simp, by simp, by simp⟩
      · cases hs
    | 1 =>
      simp only [stepO] at hs
      split at hs
      · cases hs; exact ⟨by simp, by simp, by simp⟩
      · cases hs
    | i + 2 =>
      simp only [stepO] at hs
      split at hs
      · cases hs; exact ⟨by omega, by simp; omega⟩
      · cases hs
  | op x params ins =>
    obtain ⟨h1, h2⟩ := h
    match i with
    | 0 => omega
    | 1 => omega
    | i + 2 =>
      simp only [stepO] at hs
      split at hs
      · cases hs; exact ⟨by omega, by omega, by simp; omega⟩
      · split at hs
        · cases hs; exact ⟨by omega, by simp; omega⟩
        · cases hs
end St
open Go.RowKit
open St (InR BV PS)
def PR (w0 W : World) (Kp : Nat) (n : Nat) : PS → Prop
  | .cl x => PCl w0 W Kp x n
  | .op x params ins => POp w0 W Kp x params ins n
theorem PCl.bel {w0 W : World} {Kp : Nat} {x : St.Ssa} {n : Int} (h : PCl w0 W Kp x n) : Below w0.heap.size w0 W := by
  obtain ⟨_, _, _, _, _, _, _, _, _, _, h, _⟩ := h
  exact h.bel
def StepOut (w0 w' : World) (Kp i : Nat) (o : Option PS) (e : Ending) : Prop :=
  Below w0.heap.size w0 w' ∧ match o with
    | none => e = .returned (.bool false)
    | some q => e = .returned (.bool true) ∧ PR w0 w' Kp (i + 1) q
set_option maxRecDepth 100000 in
/-- (*stext.parser).line. -/
theorem line_any (w0 : World) (Kp : Nat) (s : St.W) (hs : St.LnOk s) (w : World) (G : Glob w0) (i : Nat) (hi : i ≤ 900000) (p : PS) (hp : p.In i) (h : PR w0 w Kp i p) :
    Calls Tryz.prog 29 #[.pointer (some ⟨Kp, 0, none⟩), .string ⟨s.toArray⟩] w fun e w' => StepOut w0 w' Kp i (St.stepO i p s) e := by
  cases p with
  | cl x =>
    obtain ⟨h0, h1, h2⟩ := hp
    match i with
    | 0 =>
      obtain rfl := h0 rfl
      refine (line1_any w0 Kp s hs.len hs.types w G h).mono ?_
      rintro e w' ⟨he, hb, hq⟩
      refine ⟨hb, ?_⟩
      simp only [St.stepO]
      rcases ho : St.line1B s with _ | _
      · rw [ho] at he; exact he
      · rw [ho] at he; exact ⟨he, hq ho⟩
    | 1 =>
      obtain ⟨ps, rs, vals, blocks⟩ := x
      obtain ⟨hv, hbk⟩ := h1 rfl
      dsimp only at hv hbk
      subst hv hbk
      refine (line2_any w0 Kp s hs.len hs.words w G ps rs h).mono ?_
      rintro e w' ⟨he, hb, hq⟩
      refine ⟨hb, ?_⟩
      simp only [St.stepO]
      rcases ho : St.line2B s with _ | _
      · rw [ho] at he; exact he
      · rw [ho] at he; exact ⟨he, hq ho⟩
    | i + 2 =>
      refine (lineB_any w0 Kp s hs.len hs.words w G x (i + 2) (by omega) (by omega) (by omega) h).mono ?_
      rintro e w' ⟨he, hb, hq⟩
      refine ⟨hb, ?_⟩
      simp only [St.stepO]
      rcases ho : (St.blockP s).2 with _ | _
      · rw [ho] at he; exact he
      · rw [ho] at he; exact ⟨he, hq ho⟩
  | op x params ins =>
    obtain ⟨h1, h2⟩ := hp
    match i with
    | 0 => omega
    | 1 => omega
    | i + 2 =>
      refine (lineI_any w0 Kp s hs.len hs.words w G x params ins (i + 2) (by omega) (by omega) (by omega) (by omega) h).mono ?_
      rintro e w' ⟨hb, hq⟩
      refine ⟨hb, ?_⟩
      simp only [St.stepO]
      rcases ho : (St.finP s).2 with _ | _
      · rw [ho, if_neg (by decide)] at hq
        rw [if_neg (by decide)]
        rcases hi : (St.insP s).2 with _ | _
        · rw [hi] at hq; exact hq.1
        · rw [hi] at hq; exact ⟨hq.1, hq.2 rfl⟩
      · rw [ho, if_pos rfl] at hq
        rw [if_pos rfl]
        exact hq
/-- A form that was read, as it lies in memory. -/
theorem PCl.ssa {w0 W : World} {Kp : Nat} {x : St.Ssa} {n : Int} (h : PCl w0 W Kp x n) : ∃ P c1 R c2 V c3 B d, Var W Kp (prC P x.ps.length c1 R x.rs.length c2 V x.vals.length c3 B x.blocks.length d n false) 65 ∧ SsaAt (fun g => Kp < g) W x P R V B := by
  obtain ⟨S, P, c1, R, c2, V, c3, B, d, L, hA, hL, hC⟩ := h
  have hl : x.blocks.length = L.length := by rw [← hL]; simp
  refine ⟨P, c1, R, c2, V, c3, B, d, by rw [hl]; exact hA.cell, hA.tps.mono fun g _ hs => (hA.sS g hs).2.1, hA.trs.mono fun g _ hs => (hA.sS g hs).2.1, hA.tvs.mono fun g _ hs => (hA.sS g hs).2.1, fun hne => ?_⟩
  have hL0 : L ≠ [] := fun e => hne (by rw [← hL, e]; rfl)
  obtain ⟨g, o, e, hb, hc⟩ := own_rds encB_len (by omega) hA.own hL0
  refine ⟨g, o, e, (by subst e; have := (hA.own.lt g rfl).1; omega), hb, fun i hi => ?_⟩
  have hi2 : i < L.length := by omega
  have he : x.blocks[i] = L[i].blk := by simp [← hL]
  have hI := (hC _ (List.getElem_mem hi2)).mono (S' := fun g => Kp < g) fun g _ hs => (hA.sS g hs).2.1
  rw [he]
  exact ⟨⟨_, _, hc i hi2 0 _ rfl, hI.p⟩, ⟨_, _, hc i hi2 1 _ rfl, hI.i⟩, hc i hi2 2 _ rfl, hc i hi2 3 _ rfl, ⟨_, _, hc i hi2 4 _ rfl, hI.a⟩, ⟨_, _, hc i hi2 5 _ rfl, hI.e⟩, hc i hi2 6 _ rfl⟩
end Go.Proofs.YtmhmpobjjhbklaaGreatDoor
set_option linter.unusedVariables false
set_option linter.unusedSimpArgs false
namespace Go.Proofs.YtmhmpobjjhbklaaGreatDoor
open Go.RowKit
open St (InR BV PS)
def ParseOut (R : St.Ssa × Int × Int) (e : Ending) (w' : World) : Prop :=
  ∃ (S : Nat → Prop) (P : Option Addr) (c1 : Nat) (R1 : Option Addr) (c2 : Nat) (V : Option Addr) (c3 : Nat) (B : Option Addr) (d : Nat), e = .returned (.tuple #[ssaV R.1 P c1 R1 c2 V c3 B d, .int .i64 R.2.1, .int .i64 R.2.2]) ∧ SsaAt S w' R.1 P R1 V B
theorem results_cell_2 {P : Program} {fn : Func} {p u v : Tmp} {ty : TypeId} (h : fn.results = #[.cell p ty, .tmp u, .tmp v]) (tmps : Array Value) (w : World) (g : Nat) (t : TypeId) (cs : Array Value) (fr : Nat × Nat) (d : TypeDesc)
    (hp : tmps.getD p undef = .pointer (some ⟨g, 0, none⟩)) (hg : w.heap[g]? = some (.cells cs t fr))
    (hu : P.underlying ty = some d) (hd : (match d with | .struct _ | .array _ _ => true | _ => false) = true) (hi : (P.info? ty).map (·.size) = some cs.size) :
    (results fn tmps).run P w = .ok (.tuple #[.agg cs, tmps.getD u undef, tmps.getD v undef]) w := by
  have hp' : tmps[p]?.getD undef = .pointer (some ⟨g, 0, none⟩) := by simpa using hp
  simp [results, h, hp', asAddr, run_loadVar_row w g t ty cs fr d hg hu hd hi]
theorem ssa_empty {W : World} {S : Nat → Prop} : SsaAt S W St.empty none none none none := ⟨RdT.nil_, RdT.nil_, RdT.nil_, RdT.nil_⟩
theorem put4 {W : World} {K : Nat} {t : TypeId} {a0 a1 a2 a3 : Value} (h : Var W K #[a0, a1, a2, a3] t) (b0 b1 b2 b3 : Value) :
    Var ((((W.setCell ⟨K, 0, none⟩ b0).setCell ⟨K, 1, none⟩ b1).setCell ⟨K, 2, none⟩ b2).setCell ⟨K, 3, none⟩ b3) K #[b0, b1, b2, b3] t ∧
    W.grownBy ((((W.setCell ⟨K, 0, none⟩ b0).setCell ⟨K, 1, none⟩ b1).setCell ⟨K, 2, none⟩ b2).setCell ⟨K, 3, none⟩ b3) (some K) :=
  ⟨by have h7 := (((h.set 0 b0).set 1 b1).set 2 b2).set 3 b3; simp only [List.setIfInBounds_toArray, List.set_cons_zero, List.set_cons_succ] at h7; exact h7,
   (grown_set _ _ _ _).trans ((grown_set _ _ _ _).trans ((grown_set _ _ _ _).trans (grown_set _ _ _ _)))⟩

theorem PR.bel {w0 W : World} {Kp n : Nat} {p : PS} (h : PR w0 W Kp n p) : Below w0.heap.size w0 W := by
  cases p with
  | cl x => exact PCl.bel h
  | op x params ins => exact POp.bel h
def St.PS.isOp : PS → Bool
  | .cl _ => false
  | .op _ _ _ => true
theorem PR.cells {w0 W : World} {Kp n : Nat} {p : PS} (h : PR w0 W Kp n p) : W.cell? ⟨Kp, 4, none⟩ = some (.int .i64 (n : Int)) ∧ W.cell? ⟨Kp, 5, none⟩ = some (.bool p.isOp) ∧ Kp < W.heap.size := by
  cases p with
  | cl x =>
    obtain ⟨_, _, _, _, _, _, _, _, _, _, h, _⟩ := h
    exact ⟨h.cell.cells 4, h.cell.cells 5, h.lt⟩
  | op x params ins =>
    obtain ⟨_, _, _, _, _, _, _, _, _, _, _, _, h, _⟩ := h
    exact ⟨h.cell.cells 4, h.cell.cells 5, h.lt⟩
theorem PCl.new (W : World) : PCl W (W.alloc (.cells #[.slice none 0 0, .slice none 0 0, .slice none 0 0, .slice none 0 0, .int .i64 0, .bool false] 65)) W.heap.size St.empty (0 : Nat) :=
  ⟨fun _ => False, none, 0, none, 0, none, 0, none, 0, [], ⟨(Below.refl _ _).alloc (Nat.le_refl _) _, Nat.le_refl _, Var.new _ _ _, RdT.nil_, RdT.nil_, RdT.nil_, World.ownsRow_nil _ _ _ _, fun _ h => h.elim⟩, rfl, by simp⟩
theorem cells4' {W : World} {K : Nat} {t : TypeId} {v0 v1 v2 v3 : Value} (h : Var W K #[v0, v1, v2, v3] t) : (W.cell? ⟨K, 0, none⟩ = some v0 ∧ W.cell? ⟨K, 1, none⟩ = some v1 ∧ W.cell? ⟨K, 2, none⟩ = some v2 ∧ W.cell? ⟨K, 3, none⟩ = some v3) ∧ W.frozen? ⟨K, 0, none⟩ = false ∧ W.frozen? ⟨K, 1, none⟩ = false ∧ W.frozen? ⟨K, 2, none⟩ = false ∧ W.frozen? ⟨K, 3, none⟩ = false :=
  ⟨⟨h.cells 0, h.cells 1, h.cells 2, h.cells 3⟩, h.froz 0, h.froz 1, h.froz 2, h.froz 3⟩

set_option maxHeartbeats 8000000 in
set_option maxRecDepth 100000 in
/-- stext.Parse. -/
theorem sparse_any (s : St.W) (hs : s.length ≤ 800000) (hl : ∀ u ∈ Lib.split s [10], St.LnOk u) (w : World) (G : Glob w) :
    Calls Tryz.prog 11 #[.string ⟨s.toArray⟩] w fun e w' => ParseOut (St.parseO s) e w' ∧ Below w.heap.size w w' := by
  have hsz : (ByteArray.mk s.toArray).size = s.length := mk_size s
  have x1 : ¬ ((1048576 : Int) < (s.length : Int)) := by omega
  have HS := Lib.hid (fun W (G : Glob W) => split_any s [10] (by omega) (by simp) W G)
  have hln := St.split_len s [10] (by simp)
  have hne : Lib.split s [10] ≠ [] := by
    unfold Lib.split
    cases Lib.count s [10] with
    | zero => simp [Lib.splitK]
    | succ k => unfold Lib.splitK; split <;> simp
  obtain ⟨R, hR⟩ : ∃ x, St.parseO s = x := ⟨_, rfl⟩
  rw [hR]
  unfold St.parseO at hR
  obtain ⟨L, hL⟩ : ∃ x, Lib.split s [10] = x := ⟨_, rfl⟩
  rw [hL] at HS hln hne hR hl
  clear hL
  obtain ⟨I, z, rfl⟩ : ∃ I z, L = I ++ [z] := ⟨_, _, (List.dropLast_concat_getLast hne).symm⟩
  rw [List.dropLast_concat] at hR
  have hll : (I ++ [z]).length = I.length + 1 := by simp
  rw [hll] at hln HS
  have hI : ∀ u ∈ I, St.LnOk u := fun u hu => hl u (by simp [hu])
  have HI := Lib.hid hI
  have HR := Lib.hid hR
  have HG := Lib.hid G
  clear hR hne hl hI G
  have w1 : IntKind.i64.wrap ((I.length : Int)) = (I.length : Int) := by rw [IntKind.wrap_i64]; omega
  have HB0 := Lib.hid ((Below.refl w.heap.size w).alloc (Nat.le_refl _) (.cells #[.slice none 0 0, .slice none 0 0, .slice none 0 0, .slice none 0 0] 27))
  go_enter Tryz.func11, Tryz.ntmps11
  go_upto_region 6 with (go_at_call 28; refine (HS.out _ (HG.out.below HB0.out)).mono ?_; rintro e w2 ⟨⟨A, rfl, hrd⟩, hb⟩)
  have V2 := (Var.new w #[.slice none 0 0, .slice none 0 0, .slice none 0 0, .slice none 0 0] 27).below hb (by simp)
  have B2 := HB0.out.trans (hb.mono (by simp))
  have hK2 : w.heap.size < w2.heap.size := V2.lt
  have HG2 := Lib.hid (HG.out.below B2)
  refine at_code (F := fun W => PCl w2 W w2.heap.size St.empty (0 : Nat)) (PCl.new w2) ?_
  clear hb HS HB0 HG
  obtain ⟨Kp, hKp⟩ : ∃ K, w2.heap.size = K := ⟨_, rfl⟩
  simp only [hKp]
  intro w3 hP0
  obtain ⟨g, o, hA, hgb, -⟩ := hrd.get (i := 0) (by simp)
  subst hA
  have HV2 := Lib.hid V2
  have HB2 := Lib.hid B2
  have HK := Lib.hid hKp
  clear V2 B2 hKp
  have y0 : (0 : Int) ≤ (I.length : Int) := by omega
  have y1 : (I.length : Int) ≤ (I.length : Int) + 1 := by omega
  have y2 : I.length ≤ I.length + 1 := by omega
  go_wp2_with fail
  go_loopw [25] (fun iv wr => ∃ (i : Nat) (p : PS), iv = .int .i64 (i : Int) ∧ i ≤ I.length ∧ Hid (PR w2 wr Kp i p) ∧ p.In i ∧ Hid (St.finishO (I ++ [z]) (St.runO i p (I.drop i)) = R)) (fun iv _ => I.length - (intOf iv).toNat)
  case atStart => exact ⟨0, .cl St.empty, rfl, by omega, Lib.hid hP0, ⟨fun _ => rfl, fun h => by omega, by simp [St.empty]⟩, by simpa using HR⟩
  case round =>
    clear hP0 HR
    obtain ⟨i, p, rfl, hi, hP, hIn, hR⟩ := hrel
    have hB := hP.out.bel
    have VE := var_keep HV2.out hB
    obtain ⟨⟨c0, c1, c2, c3⟩, f0, f1, f2, f3⟩ := cells4' VE
    have hlE := VE.lt
    have BE := Lib.hid (HB2.out.trans (hB.mono HB2.out.size))
    by_cases hia : i < I.length
    · have hlt2 : i < (I ++ [z]).length := by simp; omega
      obtain ⟨g', o', hgo, -, e1⟩ := (hrd.below hB).get hlt2
      cases hgo
      have f4 := e1 0 _ rfl
      rw [Nat.add_zero, Nat.mul_one, List.getElem_append_left hia] at f4
      have hd : I.drop i = I[i] :: I.drop (i + 1) := List.drop_eq_getElem_cons hia
      have hok := HI.out I[i] (List.getElem_mem _)
      have hR2 := hR.out
      rw [hd, St.runO] at hR2
      have hq := fun q => St.stepO_in (i := i) (p := p) (q := q) (s := I[i]) hIn
      obtain ⟨u, hu⟩ : ∃ u, I[i] = u := ⟨_, rfl⟩
      rw [hu] at f4 hok hR2 hq
      have HLn := Lib.hid (line_any w2 Kp u hok wr HG2.out i (by omega) p hIn hP.out)
      have x3 : (i : Int) < (I.length : Int) := by omega
      have x4 : (0 : Int) ≤ (i : Int) := by omega
      have hw := wrap_next i (by omega)
      clear hd hu e1 hok hIn hR
      rcases ho : St.stepO i p u with _ | q
      · rw [ho] at HLn hR2
        have HR2 := Lib.hid hR2
        clear ho hR2 hq
        go_upto_region 10 with (go_at_call 29; refine HLn.out.mono ?_; rintro e w5 ⟨hb5, rfl⟩; have VE5 := var_keep HV2.out hb5; have BE5 := HB2.out.trans (hb5.mono HB2.out.size); obtain ⟨⟨k0, k1, k2, k3⟩, l0, l1, l2, l3⟩ := cells4' VE5; have hl5 := VE5.lt)
        refine at_code (F := fun W => Hid (Var W w.heap.size #[.slice none 0 0, .slice none 0 0, .slice none 0 0, .slice none 0 0] 27) ∧ Hid (Below w.heap.size w W)) ⟨Lib.hid VE5, Lib.hid BE5⟩ ?_
        clear k0 k1 k2 k3 l0 l1 l2 l3 hl5 VE5 BE5 c0 c1 c2 c3 f0 f1 f2 f3 f4 hrd y0 y1 y2 x3 x4 w1 hlE hB VE BE hP hb5 HLn hlt2 hia
        rintro W5 ⟨HV5, HB5⟩
        obtain ⟨⟨k0, k1, k2, k3⟩, l0, l1, l2, l3⟩ := cells4' HV5.out
        have hl5 := HV5.out.lt
        go_wp2_with fail
        have gE := put4 HV5.out (.slice none 0 0) (.slice none 0 0) (.slice none 0 0) (.slice none 0 0)
        refine bodyPost_ret (results_cell_2 rfl _ _ w.heap.size _ #[.slice none 0 0, .slice none 0 0, .slice none 0 0, .slice none 0 0] (0, 0) _ rfl gE.1 Tryz.underlying27 rfl (by kernel_rfl)) rfl ?_
        obtain rfl : R = (St.empty, (i : Int) + 1, 4) := by rw [← HR2.out]; rfl
        exact ⟨⟨fun _ => True, none, 0, none, 0, none, 0, none, 0, rfl, ssa_empty⟩, below_grown HB5.out gE.2 HB5.out.size (Nat.le_refl _)⟩
      · rw [ho] at HLn hR2
        have hin := hq q ho
        have HR2 := Lib.hid hR2
        clear ho hR2 hq hw VE c0 c1 c2 c3 f0 f1 f2 f3 hlE BE hB y1 hP hK2 hgb w1 hlt2
        go_wp2_with (go_at_call 29; refine HLn.out.mono ?_; rintro e w5 ⟨hb5, rfl, hP5⟩; clear hb5; have HP5 := Lib.hid hP5; clear hP5)
        go_roundw
        case rel => exact ⟨i + 1, q, by go_num, by omega, HP5, hin, HR2⟩
        case measure => simp [intOf]; omega
    · have hi2 : i = I.length := by omega
      subst hi2
      have hR2 := hR.out
      rw [List.drop_length, St.runO] at hR2
      have hzl : I.length < (I ++ [z]).length := by simp
      obtain ⟨g', o', hgo, -, e1⟩ := (hrd.below hB).get hzl
      cases hgo
      have f4 := e1 0 _ rfl
      rw [Nat.add_zero, Nat.mul_one, List.getElem_append_right (Nat.le_refl _)] at f4
      simp only [Nat.sub_self, List.getElem_cons_zero] at f4
      obtain ⟨n4, n5, n6⟩ := hP.out.cells
      have x3 : ¬ (I.length : Int) < (I.length : Int) := by omega
      have x5 : (I.length : Int) < (I.length : Int) + 1 := by omega
      have HR2 := Lib.hid hR2
      clear hR2 hR e1 hzl hIn
      go_upto_region 12 with fail
      refine at_code (F := fun W => Hid (PR w2 W Kp I.length p) ∧ W.cell? ⟨g, o + I.length, none⟩ = some (.string ⟨z.toArray⟩)) ⟨hP, f4⟩ ?_
      clear hP f4 VE c0 c1 c2 c3 f0 f1 f2 f3 hlE BE hB hrd n4 n5 n6 hK2 hgb x3 y1 hi hia
      rintro W ⟨hP, f4⟩
      have hB := hP.out.bel
      have HV5 := Lib.hid (var_keep HV2.out hB)
      have HB5 := Lib.hid (HB2.out.trans (hB.mono HB2.out.size))
      obtain ⟨⟨k0, k1, k2, k3⟩, l0, l1, l2, l3⟩ := cells4' HV5.out
      have hl5 := HV5.out.lt
      obtain ⟨n4, n5, n6⟩ := hP.out.cells
      clear hB
      have hlz : (I ++ [z]).getLast? = some z := by simp
      have HLZ := Lib.hid hlz
      clear hlz
      by_cases hz : z = []
      · subst hz
        by_cases h2 : I.length < 2
        · have hER : Hid (R = (St.empty, ((I.length : Int) + 1, (4 : Int)))) := Lib.hid (by rw [← HR2.out]; cases p <;> simp [St.finishO]; omega)
          have x9 : (I.length : Int) < 2 := by omega
          clear HR2 hP h2
          go_wp2_with fail
          have gE := put4 HV5.out (.slice none 0 0) (.slice none 0 0) (.slice none 0 0) (.slice none 0 0)
          refine bodyPost_ret (results_cell_2 rfl _ _ w.heap.size _ #[.slice none 0 0, .slice none 0 0, .slice none 0 0, .slice none 0 0] (0, 0) _ rfl gE.1 Tryz.underlying27 rfl (by kernel_rfl)) rfl ?_
          exact ⟨⟨fun _ => True, none, 0, none, 0, none, 0, none, 0, by rw [hER.out]; rfl, by rw [hER.out]; exact ssa_empty⟩, below_grown HB5.out gE.2 HB5.out.size (Nat.le_refl _)⟩
        have x9 : ¬ (I.length : Int) < 2 := by omega
        cases p with
        | op x params ins =>
          have hER : Hid (R = (St.empty, ((I.length : Int) + 1, (4 : Int)))) := Lib.hid (by rw [← HR2.out]; simp [St.finishO])
          clear HR2 hP h2
          dsimp only [St.PS.isOp] at n5
          go_wp2_with fail
          have gE := put4 HV5.out (.slice none 0 0) (.slice none 0 0) (.slice none 0 0) (.slice none 0 0)
          refine bodyPost_ret (results_cell_2 rfl _ _ w.heap.size _ #[.slice none 0 0, .slice none 0 0, .slice none 0 0, .slice none 0 0] (0, 0) _ rfl gE.1 Tryz.underlying27 rfl (by kernel_rfl)) rfl ?_
          exact ⟨⟨fun _ => True, none, 0, none, 0, none, 0, none, 0, by rw [hER.out]; rfl, by rw [hER.out]; exact ssa_empty⟩, below_grown HB5.out gE.2 HB5.out.size (Nat.le_refl _)⟩
        | cl x =>
          obtain rfl : R = (x, ((0 : Int), (0 : Int))) := by rw [← HR2.out]; simp [St.finishO]; omega
          obtain ⟨P, e1, R1, e2, V, e3, B, d, hv, hss⟩ := PCl.ssa hP.out
          have m0 := hv.cells 0
          have m1 := hv.cells 1
          have m2 := hv.cells 2
          have m3 := hv.cells 3
          simp only [prC, List.getElem?_toArray, List.getElem?_cons_zero, List.getElem?_cons_succ] at m0 m1 m2 m3
          have HSS := Lib.hid hss
          clear HR2 hP h2 hv hss
          dsimp only [St.PS.isOp] at n5
          go_wp2_with fail
          have gE := put4 HV5.out (.slice P x.ps.length e1) (.slice R1 x.rs.length e2) (.slice V x.vals.length e3) (.slice B x.blocks.length d)
          refine bodyPost_ret (results_cell_2 rfl _ _ w.heap.size _ #[.slice P x.ps.length e1, .slice R1 x.rs.length e2, .slice V x.vals.length e3, .slice B x.blocks.length d] (0, 0) _ rfl gE.1 Tryz.underlying27 rfl (by kernel_rfl)) rfl ?_
          have hlk : w.heap.size < Kp := by rw [← HK.out]; exact HV2.out.lt
          exact ⟨⟨_, P, e1, R1, e2, V, e3, B, d, rfl, HSS.out.keep (keep_grown gE.2 (by omega)) gE.2.size⟩, below_grown HB5.out gE.2 HB5.out.size (Nat.le_refl _)⟩
      · have hER : Hid (R = (St.empty, ((I.length : Int) + 1, (4 : Int)))) := Lib.hid (by rw [← HR2.out]; cases p <;> simp [St.finishO, hz])
        have hq := bne_no hz
        have hq2 := beq_no hz
        have hq3 : List.isEmpty z = false := by simpa using hz
        have hq4 : (z == []) = false := by simpa using hz
        clear HR2 hP hz
        go_wp2_with fail
        have gE := put4 HV5.out (.slice none 0 0) (.slice none 0 0) (.slice none 0 0) (.slice none 0 0)
        refine bodyPost_ret (results_cell_2 rfl _ _ w.heap.size _ #[.slice none 0 0, .slice none 0 0, .slice none 0 0, .slice none 0 0] (0, 0) _ rfl gE.1 Tryz.underlying27 rfl (by kernel_rfl)) rfl ?_
        exact ⟨⟨fun _ => True, none, 0, none, 0, none, 0, none, 0, by rw [hER.out]; rfl, by rw [hER.out]; exact ssa_empty⟩, below_grown HB5.out gE.2 HB5.out.size (Nat.le_refl _)⟩
end Go.Proofs.YtmhmpobjjhbklaaGreatDoor
set_option linter.unusedVariables false
set_option linter.unusedSimpArgs false
namespace Go.Proofs.YtmhmpobjjhbklaaGreatDoor.St
theorem index_head {c : UInt8} {t u v : W} (h : c ∉ u) : Lib.index (u ++ ((c :: t) ++ v)) (c :: t) = (u.length : Int) := by
  refine Lib.index_first (by simp) ?_ ?_
  · unfold Lib.occAt
    rw [List.drop_left]
    exact List.isPrefixOf_iff_prefix.2 (List.prefix_append _ _)
  · intro j hj
    rcases ho : Lib.occAt (u ++ ((c :: t) ++ v)) (c :: t) j with _ | _
    · rfl
    · have := Lib.occAt_head rfl ho
      rw [List.getElem?_append_left hj] at this
      exact absurd (List.mem_of_getElem? this) h
theorem index_miss {c : UInt8} {t s : W} (h : c ∉ s) : Lib.index s (c :: t) = -1 := by
  refine Lib.index_none fun j hj => ?_
  rcases ho : Lib.occAt s (c :: t) j with _ | _
  · rfl
  · exact absurd (List.mem_of_getElem? (Lib.occAt_head rfl ho)) h
theorem split_no {s sep : W} (h : Lib.index s sep = -1) : Lib.split s sep = [s] := by
  unfold Lib.split
  rw [Lib.count_miss h]
  rfl
theorem split_hit {s sep : W} {i : Nat} (hs : sep ≠ []) (h : Lib.index s sep = i) : Lib.split s sep = s.take i :: Lib.split (s.drop (i + sep.length)) sep := by
  unfold Lib.split
  have hne : ¬ ((Lib.index s sep == -1) = true) := by rw [h]; simp
  rw [Lib.count_hit hs h, Nat.add_comm 1, Lib.splitK, if_neg hne, h]
  simp
theorem joinTail_ne {l : List W} (sep : W) (h : l ≠ []) : Lib.joinTail sep l = sep ++ Lib.join l sep := by
  rcases l with _ | ⟨b, l⟩
  · exact absurd rfl h
  · rw [Lib.join_cons]; simp [Lib.joinTail]
theorem join_split (sep : W) (hs : sep ≠ []) (n : Nat) : ∀ s : W, s.length ≤ n → Lib.join (Lib.split s sep) sep = s ∧ Lib.split s sep ≠ [] := by
  have hsl : 0 < sep.length := List.length_pos_iff.2 hs
  induction n with
  | zero =>
    intro s h
    rcases Lib.index_spec s sep with ⟨h1, _⟩ | ⟨i, h1, h2, h3, _⟩
    · rw [split_no h1]; exact ⟨Lib.join_one _ _, by simp⟩
    · rcases Lib.occAt_room h3 with h' | h'
      · omega
      · exact absurd h' hs
  | succ n ih =>
    intro s h
    rcases Lib.index_spec s sep with ⟨h1, _⟩ | ⟨i, h1, h2, h3, _⟩
    · rw [split_no h1]; exact ⟨Lib.join_one _ _, by simp⟩
    · have hr : i + sep.length ≤ s.length := by
        rcases Lib.occAt_room h3 with h' | h'
        · exact h'
        · exact absurd h' hs
      rw [split_hit hs h1]
      refine ⟨?_, by simp⟩
      obtain ⟨e1, e2⟩ := ih (s.drop (i + sep.length)) (by rw [List.length_drop]; omega)
      rw [Lib.join_cons, joinTail_ne _ e2, e1]
      unfold Lib.occAt at h3
      obtain ⟨t, ht⟩ := List.isPrefixOf_iff_prefix.1 h3
      have : s.drop (i + sep.length) = t := by
        rw [← List.drop_drop, ← ht, List.drop_left]
      rw [this, ht, List.take_append_drop]
theorem split_join {c : UInt8} {t : W} : ∀ (L : List W), L ≠ [] → (∀ x ∈ L, c ∉ x) → Lib.split (Lib.join L (c :: t)) (c :: t) = L
  | [], h, _ => absurd rfl h
  | [x], _, hx => by rw [Lib.join_one, split_no (index_miss (hx x (by simp)))]
  | x :: y :: L, _, hx => by
    rw [Lib.join_cons, joinTail_ne _ (by simp), split_hit (by simp) (index_head (hx x (by simp)))]
    rw [List.take_left, ← List.append_assoc x, List.drop_left' (by simp)]
    rw [split_join (y :: L) (by simp) (fun z hz => hx z (by simp at hz ⊢; exact .inr hz))]
theorem join_mem {sep : W} {b : UInt8} : ∀ {L : List W}, b ∈ Lib.join L sep → b ∈ sep ∨ ∃ x ∈ L, b ∈ x
  | [], h => by simp [Lib.join, List.intercalate] at h
  | [x], h => by rw [Lib.join_one] at h; exact .inr ⟨x, by simp, h⟩
  | x :: y :: L, h => by
    rw [Lib.join_cons, joinTail_ne _ (by simp)] at h
    simp only [List.mem_append] at h
    rcases h with h | h | h
    · exact .inr ⟨x, by simp, h⟩
    · exact .inl h
    · rcases join_mem h with h | ⟨z, hz, hb⟩
      · exact .inl h
      · exact .inr ⟨z, List.mem_cons_of_mem _ hz, hb⟩
theorem name_facts {v : Int} (h : Ty.val v = true) : Ty.find (Ty.name v) = (v, true) ∧ Ty.shown v = Ty.name v ∧ w1 (Ty.name v) = true ∧ 44 ∉ Ty.name v ∧ 41 ∉ Ty.name v ∧ Ty.name v ≠ [] := by
  rcases Ty.five v with rfl | rfl | rfl | rfl | h'
  all_goals first | decide | (rw [Ty.val_no h'] at h; cases h)
theorem find_val {w : W} (h : (Ty.find w).2 = true) : Ty.val (Ty.find w).1 = true ∧ 3 ≤ w.length := by
  unfold Ty.find at h ⊢
  split
  · rename_i e; rw [← e]; decide
  · split
    · rename_i e; rw [← e]; decide
    · split
      · rename_i e; rw [← e]; decide
      · split
        · rename_i e; rw [← e]; decide
        · rename_i a b c d
          rw [if_neg a, if_neg b, if_neg c, if_neg d] at h
          cases h
theorem valsP_back {l : List Int} (h : l.all Ty.val = true) : valsP (l.map Ty.name) = (l, true) := by
  have hv : ∀ v ∈ l, Ty.find (Ty.name v) = (v, true) := fun v hv => (name_facts (List.all_eq_true.1 h v hv)).1
  have h1 : ((l.map Ty.name).all fun w => (Ty.find w).2) = true := by
    rw [List.all_eq_true]
    intro w hw
    obtain ⟨v, hv', rfl⟩ := List.mem_map.1 hw
    rw [hv v hv']
  have h2 : ((l.map Ty.name).map fun w => (Ty.find w).1) = l := by
    rw [List.map_map]
    refine Eq.trans (List.map_congr_left fun v hv' => ?_) (List.map_id l)
    simp [hv v hv']
  unfold valsP
  rw [if_pos h1, h2]
theorem valsP_val {ws : List W} (h : (valsP ws).2 = true) : (valsP ws).1.all Ty.val = true := by
  unfold valsP at h ⊢
  split
  · rename_i h1
    dsimp only
    rw [List.all_eq_true]
    intro v hv
    obtain ⟨w, hw, rfl⟩ := List.mem_map.1 hv
    exact (find_val (List.all_eq_true.1 h1 w hw)).1
  · rename_i h1; rw [if_neg h1] at h; cases h
theorem valsP_len (ws : List W) : (valsP ws).1.length ≤ ws.length := by
  unfold valsP
  split
  · simp
  · simp
theorem shown_name {l : List Int} (h : l.all Ty.val = true) : l.map Ty.shown = l.map Ty.name := List.map_congr_left fun v hv => (name_facts (List.all_eq_true.1 h v hv)).2.1
theorem listP_back {l : List Int} (h : l.all Ty.val = true) : listP (Lib.join (l.map Ty.shown) [44, 32]) = (l, true) := by
  rw [shown_name h]
  have h' := h
  unfold listP
  rcases l with _ | ⟨v, l⟩
  · rfl
  · have hv := (name_facts (List.all_eq_true.1 h v (by simp))).2.2.2.2.2
    rw [if_neg (by rw [List.map_cons, Lib.join_cons]; simp [hv]), split_join _ (by simp) (fun x hx => by
      obtain ⟨z, hz, rfl⟩ := List.mem_map.1 hx
      exact (name_facts (List.all_eq_true.1 h z hz)).2.2.2.1), valsP_back h']
theorem listP_val {s : W} (h : (listP s).2 = true) : (listP s).1.all Ty.val = true := by
  unfold listP at h ⊢
  split
  · rfl
  · rename_i h1; rw [if_neg h1] at h; exact valsP_val h
theorem no_par {l : List Int} (h : l.all Ty.val = true) : 41 ∉ Lib.join (l.map Ty.shown) [44, 32] := fun hm => by
  rw [shown_name h] at hm
  rcases join_mem hm with h' | ⟨x, hx, hb⟩
  · revert h'; decide
  · obtain ⟨z, hz, rfl⟩ := List.mem_map.1 hx
    exact (name_facts (List.all_eq_true.1 h z hz)).2.2.2.2.1 hb
theorem trimP_app (p s : W) : Lib.hasPrefix (p ++ s) p = true ∧ Lib.trimPrefix (p ++ s) p = s := by
  have h : Lib.hasPrefix (p ++ s) p = true := List.isPrefixOf_iff_prefix.2 (List.prefix_append _ _)
  refine ⟨h, ?_⟩
  unfold Lib.trimPrefix
  rw [if_pos h, List.drop_left]
theorem trimS_app (p s : W) : Lib.hasSuffix (s ++ p) p = true ∧ Lib.trimSuffix (s ++ p) p = s := by
  have h : Lib.hasSuffix (s ++ p) p = true := List.isSuffixOf_iff_suffix.2 (List.suffix_append _ _)
  refine ⟨h, ?_⟩
  unfold Lib.trimSuffix
  rw [if_pos h, List.length_append, Nat.add_sub_cancel, List.take_left]
theorem typeP_back {ps rs : List Int} (h1 : ps.all Ty.val = true) (h2 : rs.all Ty.val = true) : typeP (lFn ++ Ty.text ps rs) = ((ps, rs), true) := by
  obtain ⟨P, hP⟩ : ∃ P, Lib.join (ps.map Ty.shown) [44, 32] = P := ⟨_, rfl⟩
  obtain ⟨R, hR⟩ : ∃ R, Lib.join (rs.map Ty.shown) [44, 32] = R := ⟨_, rfl⟩
  have e : lFn ++ Ty.text ps rs = lFunc ++ ((P ++ (lMid ++ R)) ++ lPar) := by
    unfold Ty.text Ty.list lFn lFunc lMid lPar
    rw [hP, hR]
    simp
  have p1 := listP_back h1
  have p2 := listP_back h2
  have p3 := no_par h1
  rw [hP] at p1 p3
  rw [hR] at p2
  obtain ⟨a1, a2⟩ := trimP_app lFunc ((P ++ (lMid ++ R)) ++ lPar)
  obtain ⟨b1, b2⟩ := trimS_app lPar (P ++ (lMid ++ R))
  have hb : bodyT (lFunc ++ ((P ++ (lMid ++ R)) ++ lPar)) = P ++ (lMid ++ R) := by unfold bodyT; rw [a2, b2]
  have hi : Lib.index (P ++ (lMid ++ R)) lMid = (P.length : Int) := index_head p3
  have hc : Lib.cut (P ++ (lMid ++ R)) lMid = (P, R, true) := by
    unfold Lib.cut
    rw [hi, if_pos (by omega), Int.toNat_natCast, List.take_left, ← List.append_assoc, List.drop_left' (by simp)]
  rw [e]
  unfold typeP
  rw [a1, a2, b1, hb, hc]
  simp [p1, p2]
theorem typeP_val {s : W} (h : (typeP s).2 = true) : (typeP s).1.1.all Ty.val = true ∧ (typeP s).1.2.all Ty.val = true := by
  unfold typeP at h ⊢
  split
  · rename_i h1
    rw [if_pos h1] at h
    simp only [Bool.and_eq_true] at h
    exact ⟨listP_val h.1, listP_val h.2⟩
  · rename_i h1; rw [if_neg h1] at h; cases h
theorem line1_back {ps rs : List Int} (h1 : ps.all Ty.val = true) (h2 : rs.all Ty.val = true) : line1B (lFn ++ Ty.text ps rs) = true := by
  unfold line1B
  rw [typeP_back h1 h2]
  simp
theorem w1_names {l : List Int} (h : l.all Ty.val = true) : ∀ w ∈ l.map Ty.name, w1 w = true := fun w hw => by
  obtain ⟨v, hv, rfl⟩ := List.mem_map.1 hw
  exact (name_facts (List.all_eq_true.1 h v hv)).2.2.1
theorem vals_words {l : List Int} (h : l.all Ty.val = true) : Lib.fieldsD (valsO l) = lVals :: l.map Ty.name := by
  rw [valsO_words]
  exact fields_zero fun w hw => by
    rcases List.mem_cons.1 hw with rfl | hw
    · decide
    · exact w1_names h w hw
theorem line2_back {l : List Int} (h : l.all Ty.val = true) : line2B (valsO l) = true ∧ (valsP (Lib.fieldsD (valsO l)).tail).1 = l := by
  unfold line2B
  rw [vals_words h]
  simp [valsP_back h]
theorem blk_words (b : Blk) : Lib.fieldsD (blkO b) = lBlock :: b.params.map Lib.itoa := by
  rw [blkO_words]
  exact fields_zero fun w hw => by
    rcases List.mem_cons.1 hw with rfl | hw
    · decide
    · exact w1_map _ w hw
theorem blockP_back {b : Blk} (h : ∀ z ∈ b.params, InR z) : blockP (blkO b) = (b.params, true) := by
  unfold blockP
  rw [blk_words, takeO_hit]
  have := numsGo_back (Hd.nil []) (by simp) b.params h true
  rw [List.append_nil] at this
  simp [numsO, this, blkO, lBlock]
set_option maxRecDepth 100000 in
theorem kinds_end : ∀ w ∈ kindW, w ≠ lEnd := by decide +kernel
theorem finP_ins {x : Ins} (h : insMay x = true) : (finP (insO x)).2 = false := by
  have hw := w1_insW h
  have h' := h
  unfold insMay at h
  simp only [Bool.and_eq_true] at h
  obtain ⟨h1, h2, h3⟩ := h
  obtain ⟨i, hi, hk, e⟩ := word_get h1
  have hf : Lib.fieldsD (insO x) = insW x := by rw [insO_words x (kindw_ne h')]; exact fields_two hw
  have hh : (Lib.fieldsD (insO x)).head? ≠ some lEnd := by
    rw [hf, insW, List.head?_cons]
    intro e2
    injection e2 with e2
    unfold kindw at e2
    rw [e] at e2
    exact kinds_end _ (List.getElem_mem _) e2
  have ht : (takeO lEnd ⟨Lib.fieldsD (insO x), true⟩).1 = false := by unfold takeO; rw [if_neg hh]
  unfold finP
  simp only [ht, Bool.false_and]
end Go.Proofs.YtmhmpobjjhbklaaGreatDoor.St
set_option linter.unusedVariables false
set_option linter.unusedSimpArgs false
namespace Go.Proofs.YtmhmpobjjhbklaaGreatDoor.St
theorem stepO_op (i : Nat) (x : Ssa) (params : List Int) (ins : List Ins) (s : W) : stepO i (.op x params ins) s = if (finP s).2 then some (.cl ⟨x.ps, x.rs, x.vals, x.blocks ++ [⟨params, ins, (finP s).1⟩]⟩) else if (insP s).2 then some (.op x params (ins ++ [(insP s).1])) else none := by
  match i with
  | 0 => rfl
  | 1 => rfl
  | i + 2 => rfl
theorem runO_step {i : Nat} {p q : PS} {s : W} {t : List W} (h : stepO i p s = some q) : runO i p (s :: t) = runO (i + 1) q t := by rw [runO, h]
theorem run_ins (x : Ssa) (params : List Int) (t : List W) : ∀ (l : List Ins) (ins0 : List Ins) (i : Nat), (∀ y ∈ l, y.Ok ∧ insMay y = true) → runO i (.op x params ins0) (l.map insO ++ t) = runO (i + l.length) (.op x params (ins0 ++ l)) t
  | [], ins0, i, _ => by simp
  | y :: l, ins0, i, h => by
    obtain ⟨h1, h2⟩ := h y (by simp)
    rw [List.map_cons, List.cons_append, runO_step (q := .op x params (ins0 ++ [y])) (by rw [stepO_op, finP_ins h2, insP_back h1 h2]; simp)]
    rw [run_ins x params t l _ _ (fun z hz => h z (by simp [hz])), List.append_assoc, List.length_cons]
    rw [show i + 1 + l.length = i + (l.length + 1) from by omega]
    rfl
theorem run_blk {b : Blk} (hb : b.Ok) (hm : blkMay b = true) (x : Ssa) (i : Nat) (hi : 2 ≤ i) (t : List W) : runO i (.cl x) (blkLinesO b ++ t) = runO (i + (blkLinesO b).length) (.cl ⟨x.ps, x.rs, x.vals, x.blocks ++ [b]⟩) t := by
  obtain ⟨j, rfl⟩ : ∃ j, i = j + 2 := ⟨i - 2, by omega⟩
  unfold blkMay at hm
  simp only [Bool.and_eq_true] at hm
  obtain ⟨h1, h2⟩ := hm
  have e : blkLinesO b ++ t = blkO b :: (b.ins.map insO ++ (finO b.fin :: t)) := by unfold blkLinesO; simp
  have hl : (blkLinesO b).length = b.ins.length + 2 := by unfold blkLinesO; simp
  rw [e, hl, runO_step (q := .op x b.params []) (by simp only [stepO]; rw [blockP_back hb.params.2]; simp)]
  rw [run_ins x b.params _ b.ins [] _ (fun y hy => ⟨hb.ins.2 y hy, List.all_eq_true.1 h1 y hy⟩)]
  rw [runO_step (q := .cl ⟨x.ps, x.rs, x.vals, x.blocks ++ [b]⟩) (by rw [stepO_op, finP_back hb.fin h2]; simp)]
  rw [show j + 2 + 1 + b.ins.length + 1 = j + 2 + (b.ins.length + 2) from by omega]
theorem run_blks : ∀ (L : List Blk) (x : Ssa) (i : Nat), 2 ≤ i → (∀ b ∈ L, b.Ok ∧ blkMay b = true) → runO i (.cl x) (L.flatMap blkLinesO) = .inr (.cl ⟨x.ps, x.rs, x.vals, x.blocks ++ L⟩)
  | [], x, i, _, _ => by simp [runO]
  | b :: L, x, i, hi, h => by
    obtain ⟨h1, h2⟩ := h b (by simp)
    rw [List.flatMap_cons, run_blk h1 h2 x i hi, run_blks L _ _ (by omega) (fun z hz => h z (by simp [hz]))]
    simp
theorem w1_no10 {w : W} (h : w1 w = true) : 10 ∉ w := fun hm => by
  have := (w1_mem h 10 hm).1
  revert this; decide
theorem sp_no10 {ws : List W} (h : ∀ w ∈ ws, w1 w = true) : 10 ∉ sp ws := fun hm => by
  unfold sp at hm
  obtain ⟨w, hw, hb⟩ := List.mem_flatMap.1 hm
  rcases List.mem_cons.1 hb with hb | hb
  · revert hb; decide
  · exact w1_no10 (h w hw) hb
theorem list_no10 {l : List Int} (h : l.all Ty.val = true) : 10 ∉ Ty.list l := fun hm => by
  unfold Ty.list at hm
  rcases List.mem_cons.1 hm with hm | hm
  · revert hm; decide
  · rcases List.mem_append.1 hm with hm | hm
    · rw [shown_name h] at hm
      rcases join_mem hm with h' | ⟨x, hx, hb⟩
      · revert h'; decide
      · exact w1_no10 (w1_names h x hx) hb
    · revert hm; decide
theorem lines_no10 (x : Ssa) (hm : may x = true) : ∀ u ∈ linesO x, 10 ∉ u := by
  unfold may at hm
  simp only [Bool.and_eq_true] at hm
  obtain ⟨h1, h2, h3, h4⟩ := hm
  intro u hu
  unfold linesO at hu
  simp only [List.cons_append, List.nil_append, List.mem_cons, List.mem_flatMap] at hu
  rcases hu with rfl | rfl | ⟨b, hb, hu⟩
  · unfold funcO Ty.text
    simp only [List.mem_append, not_or]
    exact ⟨by decide, list_no10 h1, by decide, list_no10 h2⟩
  · rw [valsO_words]
    simp only [List.mem_append, not_or]
    exact ⟨by decide, sp_no10 (w1_names h3)⟩
  · have hb' := List.all_eq_true.1 h4 b hb
    unfold blkMay at hb'
    simp only [Bool.and_eq_true] at hb'
    obtain ⟨g1, g2⟩ := hb'
    unfold blkLinesO at hu
    simp only [List.cons_append, List.mem_cons, List.mem_append, List.mem_map, List.not_mem_nil, or_false] at hu
    rcases hu with rfl | ⟨y, hy, rfl⟩ | rfl
    · rw [blkO_words]
      simp only [List.mem_append, not_or]
      exact ⟨by decide, sp_no10 (w1_map _)⟩
    · have hy' := List.all_eq_true.1 g1 y hy
      rw [insO_words y (kindw_ne hy')]
      simp only [List.mem_cons, not_or]
      exact ⟨by decide, sp_no10 (w1_insW hy')⟩
    · rw [finO_words _ (word_ne endW_ne g2)]
      simp only [List.mem_cons, not_or]
      exact ⟨by decide, sp_no10 (w1_finW g2)⟩
theorem split_print (x : Ssa) (hm : may x = true) : Lib.split (printO x) [10] = linesO x ++ [[]] := by
  have hne : linesO x ≠ [] := by unfold linesO; simp
  have e : printO x = Lib.join (linesO x ++ [[]]) [10] := by
    unfold printO
    rw [if_pos hm, join_snoc, if_neg hne, List.append_nil]
  rw [e, split_join _ (by simp)]
  intro u hu
  rcases List.mem_append.1 hu with hu | hu
  · exact lines_no10 x hm u hu
  · rw [List.mem_singleton.1 hu]; simp
/-- Parse inverts Print. -/
theorem parse_back (x : Ssa) (hx : x.Ok) (hm : may x = true) : parseO (printO x) = (x, 0, 0) := by
  have hm' := hm
  unfold may at hm'
  simp only [Bool.and_eq_true] at hm'
  obtain ⟨h1, h2, h3, h4⟩ := hm'
  unfold parseO
  rw [split_print x hm, List.dropLast_concat]
  have e : linesO x = (lFn ++ Ty.text x.ps x.rs) :: valsO x.vals :: x.blocks.flatMap blkLinesO := rfl
  rw [e]
  rw [runO_step (q := .cl ⟨x.ps, x.rs, [], []⟩) (by simp only [stepO]; rw [line1_back h1 h2, typeP_back h1 h2]; simp)]
  rw [runO_step (q := .cl ⟨x.ps, x.rs, x.vals, []⟩) (by
    simp only [stepO]
    rw [(line2_back h3).1, (line2_back h3).2]; simp)]
  rw [run_blks _ _ _ (by omega) (fun b hb => ⟨hx.blocks.2 b hb, List.all_eq_true.1 h4 b hb⟩)]
  unfold finishO
  rw [List.nil_append]
  dsimp only
  rw [if_pos ⟨by rw [List.getLast?_append]; simp, by simp⟩]
/-! The other way. -/
theorem finP_ok {s : W} (h : (Lib.fieldsD s).length ≤ 5000) : (finP s).1.Ok := by
  have h0 := takeO_len lEnd ⟨Lib.fieldsD s, true⟩
  unfold finP
  dsimp only at h0 ⊢
  exact finF_ok _ _ (by rw [List.length_tail]; omega)
theorem insP_ok {s : W} (h : (Lib.fieldsD s).length ≤ 5000) : (insP s).1.Ok := by
  unfold insP
  dsimp only
  exact insF_ok _ _ (by rw [List.length_tail]; omega)
theorem blockP_ok {s : W} (h : (Lib.fieldsD s).length ≤ 5000) : (blockP s).1.length ≤ 10000 ∧ ∀ z ∈ (blockP s).1, InR z := by
  have h0 := takeO_len lBlock ⟨Lib.fieldsD s, true⟩
  unfold blockP
  dsimp only at h0 ⊢
  unfold numsO
  have h1 := numsGo_in (takeO lBlock ⟨Lib.fieldsD s, true⟩).2.l (takeO lBlock ⟨Lib.fieldsD s, true⟩).2.ok
  exact ⟨by omega, h1.2⟩
theorem blockP_some {s : W} (h : (blockP s).2 = true) : join [lBlock, row (blockP s).1] = s := by
  unfold blockP at h ⊢
  simp only [Bool.and_eq_true, beq_iff_eq] at h
  exact h.2.2.2
/-- What lines were read so far, and what of them is known. -/
def Inv (i : Nat) (done : List W) : PS → Prop
  | .cl x => x.ps.length ≤ 5000 ∧ x.rs.length ≤ 5000 ∧ x.vals.length ≤ 5000 ∧ x.blocks.length ≤ i ∧ (∀ b ∈ x.blocks, b.Ok) ∧ may x = true ∧ ((i = 0 ∧ done = [] ∧ x = empty) ∨ (i = 1 ∧ done = [funcO x] ∧ x.vals = [] ∧ x.blocks = []) ∨ (2 ≤ i ∧ done = linesO x))
  | .op x params ins => x.ps.length ≤ 5000 ∧ x.rs.length ≤ 5000 ∧ x.vals.length ≤ 5000 ∧ x.blocks.length ≤ i ∧ (∀ b ∈ x.blocks, b.Ok) ∧ may x = true ∧ (2 ≤ i ∧ params.length ≤ 10000 ∧ (∀ z ∈ params, InR z) ∧ ins.length ≤ i ∧ (∀ y ∈ ins, y.Ok ∧ insMay y = true) ∧ done = linesO x ++ (join [lBlock, row params] :: ins.map insO))
theorem may_all (x : Ssa) : may x = true ↔ x.ps.all Ty.val = true ∧ x.rs.all Ty.val = true ∧ x.vals.all Ty.val = true ∧ x.blocks.all blkMay = true := by
  unfold may
  simp only [Bool.and_eq_true]
theorem inv_step {i : Nat} {done : List W} {p q : PS} {s : W} (hi : i ≤ 5000) (hs : LnOk s) (h : Inv i done p) (hq : stepO i p s = some q) : Inv (i + 1) (done ++ [s]) q := by
  cases p with
  | cl x =>
    obtain ⟨h1, h2, h3, h4, h5, h6, h7⟩ := h
    match i with
    | 0 =>
      simp only [stepO] at hq
      split at hq
      · rename_i hl
        cases hq
        unfold line1B at hl
        simp only [Bool.and_eq_true, beq_iff_eq] at hl
        obtain ⟨l1, l2⟩ := hl
        obtain ⟨v1, v2⟩ := typeP_val l1
        have hd : done = [] := by
          rcases h7 with h | h | h
          · exact h.2.1
          · omega
          · omega
        subst hd
        refine ⟨hs.types.1, hs.types.2, by simp, by simp, by simp, (may_all _).2 ⟨v1, v2, rfl, rfl⟩, .inr (.inl ⟨rfl, ?_, rfl, rfl⟩)⟩
        rw [List.nil_append]
        exact congrArg (fun u => [u]) l2.symm
      · cases hq
    | 1 =>
      simp only [stepO] at hq
      split at hq
      · rename_i hl
        cases hq
        unfold line2B at hl
        simp only [Bool.and_eq_true, beq_iff_eq] at hl
        obtain ⟨l1, l2, l3⟩ := hl
        have hd : done = [funcO x] := by
          rcases h7 with h | h | h
          · omega
          · exact h.2.1
          · omega
        subst hd
        obtain ⟨m1, m2, m3, m4⟩ := (may_all _).1 h6
        have hlen := valsP_len (Lib.fieldsD s).tail
        have hw := hs.words
        rw [List.length_tail] at hlen
        refine ⟨h1, h2, by dsimp only; omega, by simp, by simp, (may_all _).2 ⟨m1, m2, valsP_val l2, rfl⟩, .inr (.inr ⟨by omega, ?_⟩)⟩
        unfold linesO
        dsimp only
        rw [l3]
        simp [funcO]
      · cases hq
    | i + 2 =>
      simp only [stepO] at hq
      split at hq
      · rename_i hl
        cases hq
        have hd : done = linesO x := by
          rcases h7 with h | h | h
          · omega
          · omega
          · exact h.2
        subst hd
        obtain ⟨b1, b2⟩ := blockP_ok hs.words
        refine ⟨h1, h2, h3, by omega, h5, h6, by omega, b1, b2, by simp, by simp, ?_⟩
        rw [blockP_some hl]
        rfl
      · cases hq
  | op x params ins =>
    obtain ⟨h1, h2, h3, h4, h5, h6, h7, h8, h9, h10, h11, h12⟩ := h
    rw [stepO_op] at hq
    split at hq
    · rename_i hl
      cases hq
      obtain ⟨f1, f2⟩ := finP_some hl
      have f3 := finP_ok hs.words
      obtain ⟨m1, m2, m3, m4⟩ := (may_all _).1 h6
      refine ⟨h1, h2, h3, by simp; omega, ?_, (may_all _).2 ⟨m1, m2, m3, ?_⟩, .inr (.inr ⟨by omega, ?_⟩)⟩
      · intro b hb
        rcases List.mem_append.1 hb with hb | hb
        · exact h5 b hb
        · rw [List.mem_singleton.1 hb]
          exact ⟨⟨h8, h9⟩, ⟨by dsimp only; omega, fun e he => (h11 e he).1⟩, f3⟩
      · dsimp only
        rw [List.all_append, m4, Bool.true_and, List.all_cons, List.all_nil, Bool.and_true]
        unfold blkMay
        rw [f1, Bool.and_true, List.all_eq_true]
        exact fun e he => (h11 e he).2
      · rw [h12]
        have e : linesO ⟨x.ps, x.rs, x.vals, x.blocks ++ [⟨params, ins, (finP s).1⟩]⟩ = linesO x ++ blkLinesO ⟨params, ins, (finP s).1⟩ := by
          unfold linesO
          simp [funcO]
        rw [e]
        unfold blkLinesO blkO
        rw [f2]
        simp [lBlock]
    · split at hq
      · rename_i _ hl
        cases hq
        obtain ⟨f1, f2⟩ := insP_some hl
        have f3 := insP_ok hs.words
        refine ⟨h1, h2, h3, by omega, h5, h6, by omega, h8, h9, by simp; omega, ?_, ?_⟩
        · intro y hy
          rcases List.mem_append.1 hy with hy | hy
          · exact h11 y hy
          · rw [List.mem_singleton.1 hy]; exact ⟨f3, f1⟩
        · rw [h12, List.map_append, List.map_cons, List.map_nil, f2]
          simp
      · cases hq
theorem inv_run : ∀ (L : List W) (i : Nat) (done : List W) (p q : PS), i + L.length ≤ 5000 → (∀ u ∈ L, LnOk u) → Inv i done p → runO i p L = .inr q → Inv (i + L.length) (done ++ L) q
  | [], i, done, p, q, _, _, h, hr => by
    rw [runO] at hr
    cases hr
    simpa using h
  | s :: L, i, done, p, q, hi, hl, h, hr => by
    rw [runO] at hr
    split at hr
    · cases hr
    · rename_i p' hp'
      have h1 := inv_step (by simp at hi; omega) (hl s (by simp)) h hp'
      have h2 := inv_run L (i + 1) (done ++ [s]) p' q (by simp at hi; omega) (fun u hu => hl u (by simp [hu])) h1 hr
      rw [List.append_assoc] at h2
      rw [List.length_cons, Nat.add_comm L.length, ← Nat.add_assoc]
      exact h2
theorem inv_zero : Inv 0 [] (.cl empty) := ⟨by simp [empty], by simp [empty], by simp [empty], by simp [empty], by simp [empty], rfl, .inl ⟨rfl, rfl, rfl⟩⟩
/-- Print inverts Parse. -/
theorem parse_some (s : W) (hl : ∀ u ∈ Lib.split s [10], LnOk u) (hn : (Lib.split s [10]).length ≤ 5000) : (∃ x : Ssa, parseO s = (x, 0, 0) ∧ x.Ok ∧ may x = true ∧ printO x = s) ∨ ∃ n : Nat, 1 ≤ n ∧ n ≤ 5000 ∧ parseO s = (empty, (n : Int), 4) := by
  obtain ⟨j1, j2⟩ := join_split [10] (by simp) s.length s (Nat.le_refl _)
  unfold parseO
  obtain ⟨L, hL⟩ : ∃ L, Lib.split s [10] = L := ⟨_, rfl⟩
  rw [hL] at hl hn j1 j2 ⊢
  obtain ⟨I, z, rfl⟩ : ∃ I z, L = I ++ [z] := ⟨_, _, (List.dropLast_concat_getLast j2).symm⟩
  rw [List.dropLast_concat]
  rw [List.length_append, List.length_singleton] at hn
  rcases hr : runO 0 (.cl empty) I with i | q
  · refine .inr ⟨i + 1, by omega, ?_, by simp [finishO]⟩
    have : ∀ (L : List W) (a : Nat) (p : PS) (i : Nat), runO a p L = .inl i → i < a + L.length := by
      intro L
      induction L with
      | nil => intro a p i h; cases h
      | cons s L ih =>
        intro a p i h
        rw [runO] at h
        split at h
        · cases h; simp
        · have := ih _ _ _ h; simp; omega
    have := this _ _ _ _ hr
    omega
  · have hv := inv_run I 0 [] (.cl empty) q (by omega) (fun u hu => hl u (by simp [hu])) inv_zero hr
    rw [List.nil_append, Nat.zero_add] at hv
    cases q with
    | op x params ins => exact .inr ⟨I.length + 1, by omega, by omega, by simp [finishO]⟩
    | cl x =>
      unfold finishO
      dsimp only
      split
      · rename_i hc
        obtain ⟨c1, c2⟩ := hc
        obtain ⟨h1, h2, h3, h4, h5, h6, h7⟩ := hv
        have hz : z = [] := by simpa using c1
        subst hz
        have hi : 2 ≤ I.length := by simp at c2; omega
        have hd : I = linesO x := by
          rcases h7 with h | h | h
          · omega
          · omega
          · exact h.2
        refine .inl ⟨x, rfl, ⟨h1, h2, h3, by omega, h5⟩, h6, ?_⟩
        unfold printO
        rw [if_pos h6, ← hd]
        rw [join_snoc, if_neg (by intro e; rw [e] at hi; simp at hi), List.append_nil] at j1
        exact j1
      · exact .inr ⟨I.length + 1, by omega, by omega, by simp⟩
end Go.Proofs.YtmhmpobjjhbklaaGreatDoor.St
set_option linter.unusedVariables false
set_option linter.unusedSimpArgs false
namespace Go.Proofs.YtmhmpobjjhbklaaGreatDoor.St
theorem join_ge : ∀ (L : List W), L ≠ [] → (∀ x ∈ L, 3 ≤ x.length) → 5 * L.length ≤ (Lib.join L [44, 32]).length + 2
  | [], h, _ => absurd rfl h
  | [x], _, hx => by
    have := hx x (by simp)
    rw [Lib.join_one]; simp; omega
  | x :: y :: L, _, hx => by
    have h1 := hx x (by simp)
    have h2 := join_ge (y :: L) (by simp) (fun z hz => hx z (List.mem_cons_of_mem _ hz))
    rw [Lib.join_cons, joinTail_ne _ (by simp)]
    simp only [List.length_append, List.length_cons, List.length_nil] at h2 ⊢
    omega
theorem listP_len (s : W) : 5 * (listP s).1.length ≤ s.length + 2 := by
  unfold listP
  split
  · simp
  · obtain ⟨j1, j2⟩ := join_split [44, 32] (by simp) s.length s (Nat.le_refl _)
    unfold valsP
    split
    · rename_i h
      have := join_ge _ j2 (fun x hx => (find_val (List.all_eq_true.1 h x hx)).2)
      rw [j1] at this
      simpa using this
    · simp
theorem typeP_len (s : W) : 5 * (typeP s).1.1.length ≤ s.length + 2 ∧ 5 * (typeP s).1.2.length ≤ s.length + 2 := by
  have h1 := trimP_len s lFunc
  have h2 := trimS_len (Lib.trimPrefix s lFunc) lPar
  unfold typeP
  split
  · have h3 := cut_len (bodyT s) lMid
    have h4 := listP_len (Lib.cut (bodyT s) lMid).1
    have h5 := listP_len (Lib.cut (bodyT s) lMid).2.1
    have h6 : (bodyT s).length ≤ s.length := by unfold bodyT; omega
    dsimp only
    omega
  · simp
theorem lnok {s : W} (h : s.length ≤ 24000) (hw : (Lib.fieldsD s).length ≤ 5000) : LnOk s := by
  have := typeP_len s
  exact ⟨by omega, hw, by omega, by omega⟩
theorem lnok_small {s : W} (h : s.length ≤ 5000) : LnOk s := lnok (by omega) (Nat.le_trans (fieldsD_wd s).1 h)
theorem join_part (sep : W) : ∀ (L : List W) (x : W), x ∈ L → x.length ≤ (Lib.join L sep).length
  | [], x, h => by cases h
  | [y], x, h => by rw [Lib.join_one, List.mem_singleton.1 h]; exact Nat.le_refl _
  | y :: z :: L, x, h => by
    rw [Lib.join_cons, joinTail_ne _ (by simp), List.length_append, List.length_append]
    rcases List.mem_cons.1 h with rfl | h
    · omega
    · have := join_part sep (z :: L) x h; omega
theorem split_lnok {s : W} (h : s.length ≤ 4900) : (∀ u ∈ Lib.split s [10], LnOk u) ∧ (Lib.split s [10]).length ≤ 5000 := by
  obtain ⟨j1, j2⟩ := join_split [10] (by simp) s.length s (Nat.le_refl _)
  refine ⟨fun u hu => lnok_small ?_, ?_⟩
  · have := join_part [10] _ u hu
    rw [j1] at this
    omega
  · have := split_len s [10] (by simp); omega
/-! What a form costs. -/
def costI (y : Ins) : Nat := y.args.length + y.outs.length
def costE (l : List Edge) : Nat := (l.map fun e => e.args.length).sum
def costB (b : Blk) : Nat := b.params.length + b.ins.length + b.fin.args.length + b.fin.edges.length + (b.ins.map costI).sum + costE b.fin.edges
theorem costB_eq (b : Blk) : costB b = b.params.length + b.ins.length + b.fin.args.length + b.fin.edges.length + (b.ins.map costI).sum + costE b.fin.edges := rfl
theorem costI_eq (y : Ins) : costI y = y.args.length + y.outs.length := rfl
def cost (x : Ssa) : Nat := x.ps.length + x.rs.length + x.vals.length + (x.blocks.map costB).sum
def Few (x : Ssa) : Prop := x.blocks.length ≤ 60 ∧ cost x ≤ 900
/-- The numbers of a form are Go's. -/
structure Num (x : Ssa) : Prop where
  ins : ∀ b ∈ x.blocks, ∀ y ∈ b.ins, InR y.a ∧ InR y.b ∧ y.n < 18446744073709551616 ∧ (∀ z ∈ y.args, InR z) ∧ ∀ z ∈ y.outs, InR z
  fin : ∀ b ∈ x.blocks, InR b.fin.cond ∧ InR b.fin.trap ∧ (∀ z ∈ b.fin.args, InR z) ∧ ∀ e ∈ b.fin.edges, InR e.tgt ∧ ∀ z ∈ e.args, InR z
  par : ∀ b ∈ x.blocks, ∀ z ∈ b.params, InR z
theorem sum_mem {α : Type} (f : α → Nat) : ∀ (l : List α) (x : α), x ∈ l → f x ≤ (l.map f).sum
  | [], x, h => by cases h
  | y :: l, x, h => by
    rw [List.map_cons, List.sum_cons]
    rcases List.mem_cons.1 h with rfl | h
    · omega
    · have := sum_mem f l x h; omega
theorem ecount_eq (l : List Edge) : ecount l = costE l + 2 * l.length := by
  unfold ecount costE
  induction l with
  | nil => rfl
  | cons e l ih => simp only [List.map_cons, List.sum_cons, List.length_cons, ih]; omega
theorem few_ok {x : Ssa} (h : Few x) (hn : Num x) : x.Ok := by
  obtain ⟨h1, h2⟩ := h
  unfold cost at h2
  refine ⟨by omega, by omega, by omega, by omega, fun b hb => ?_⟩
  have hc := sum_mem costB _ b hb
  rw [costB_eq b] at hc
  refine ⟨⟨by omega, hn.par b hb⟩, ⟨by omega, fun y hy => ?_⟩, ?_⟩
  · obtain ⟨a1, a2, a3, a4, a5⟩ := hn.ins b hb y hy
    have hy' := sum_mem costI _ y hy
    rw [costI_eq y] at hy'
    exact ⟨a1, a2, a3, ⟨by omega, a4⟩, by omega, a5⟩
  · obtain ⟨a1, a2, a3, a4⟩ := hn.fin b hb
    refine ⟨a1, ⟨by omega, a3⟩, ⟨?_, fun e he => ?_⟩, a2⟩
    · rw [ecount_eq]; omega
    · have := sum_mem (fun e : Edge => e.args.length) _ e he
      have hce : (b.fin.edges.map fun e => e.args.length).sum = costE b.fin.edges := rfl
      exact ⟨(a4 e he).1, by omega, (a4 e he).2⟩
theorem blkO_len {b : Blk} (h : ∀ z ∈ b.params, InR z) : (blkO b).length ≤ 5 + 21 * b.params.length ∧ (Lib.fieldsD (blkO b)).length = 1 + b.params.length := by
  have h1 := sp_len h
  rw [blk_words, blkO_words]
  simp only [List.length_append, List.length_cons, List.length_nil, List.length_map]
  omega
/-! The same, of forms that may not be printable. -/
theorem insO_any {y : Ins} (hy : y.Ok) : (insO y).length ≤ 200 + 21 * costI y := by
  have h := joinF_len [kindw y.kind, opT y.op, number [97] y.a, number [98] y.b, nT y.n, list [111, 102] y.args, list [116, 111] y.outs]
  have k1 : (kindw y.kind).length ≤ 10 := word_len kindW_len _
  have a1 := opT_len y.op
  have a2 := number_len (l := [97]) hy.a
  have a3 := number_len (l := [98]) hy.b
  have a4 := nT_len hy.n
  have a5 := list_len (s := [111, 102]) hy.args.2
  have a6 := list_len (s := [116, 111]) hy.outs.2
  unfold insO costI
  simp only [List.map_cons, List.map_nil, List.sum_cons, List.sum_nil, List.length_append, List.length_cons, List.length_nil] at *
  omega
theorem finO_any {f : Fin} (hf : f.Ok) : (finO f).length ≤ 200 + 60 * (f.args.length + f.edges.length + costE f.edges) := by
  have h0 := joinF_len [finGo (fin0 f) f.edges, number [116, 114, 97, 112] f.trap]
  have h1 := joinF_len [[101, 110, 100], (word endW f.kind).1, number [111, 110] f.cond, list [111, 102] f.args]
  have h2 := finGo_len f.edges (fin0 f) hf.edges.2
  have k1 := word_len endW_len f.kind
  have a1 := number_len (l := [111, 110]) hf.cond
  have a2 := list_len (s := [111, 102]) hf.args.2
  have a3 := number_len (l := [116, 114, 97, 112]) hf.trap
  have e := ecount_eq f.edges
  have e0 : fin0 f = join [[101, 110, 100], (word endW f.kind).1, number [111, 110] f.cond, list [111, 102] f.args] := rfl
  rw [← e0] at h1
  unfold finO
  simp only [List.map_cons, List.map_nil, List.sum_cons, List.sum_nil, List.length_append, List.length_cons, List.length_nil] at *
  omega
theorem ins_total : ∀ l : List Ins, (∀ y ∈ l, y.Ok) → ((l.map insO).flatMap (· ++ [10])).length ≤ 201 * l.length + 21 * (l.map costI).sum
  | [], _ => by simp
  | y :: l, h => by
    have h1 := insO_any (h y (by simp))
    have h2 := ins_total l (fun z hz => h z (by simp [hz]))
    rw [List.map_cons, List.flatMap_cons, List.length_append, List.length_append, List.map_cons, List.sum_cons, List.length_cons, List.length_cons, List.length_nil]
    omega
theorem blk_total {b : Blk} (hb : b.Ok) : ((blkLinesO b).flatMap (· ++ [10])).length ≤ 300 + 230 * costB b := by
  have h1 := (blkO_len hb.params.2).1
  have h2 := ins_total b.ins hb.ins.2
  have h3 := finO_any hb.fin
  rw [costB_eq b]
  unfold blkLinesO
  simp only [List.cons_append, List.flatMap_cons, List.flatMap_append, List.length_append, List.length_cons, List.length_nil, List.flatMap_nil] at h2 ⊢
  omega
theorem blks_total : ∀ L : List Blk, (∀ b ∈ L, b.Ok) → ((L.flatMap blkLinesO).flatMap (· ++ [10])).length ≤ 300 * L.length + 230 * (L.map costB).sum
  | [], _ => by simp
  | b :: L, h => by
    have h1 := blk_total (h b (by simp))
    have h2 := blks_total L (fun z hz => h z (by simp [hz]))
    rw [List.flatMap_cons, List.flatMap_append, List.length_append, List.map_cons, List.sum_cons, List.length_cons]
    omega
theorem print_len {x : Ssa} (h : Few x) (hn : Num x) : (Lib.join (linesO x) [10] ++ [10]).length ≤ 500000 := by
  have hok := few_ok h hn
  obtain ⟨h1, h2⟩ := h
  unfold cost at h2
  have e : linesO x = funcO x :: (valsO x.vals :: x.blocks.flatMap blkLinesO) := rfl
  rw [e, join_lf, List.flatMap_cons, List.flatMap_cons]
  have a := Go.Proofs.YtmhmpobjjhbklaaGreatDoor.list_len x.ps hok.ps
  have a' := Go.Proofs.YtmhmpobjjhbklaaGreatDoor.list_len x.rs hok.rs
  have ef : funcO x = lFn ++ (Ty.list x.ps ++ ([32, 45, 62, 32] ++ Ty.list x.rs)) := rfl
  have b := valsO_len x.vals
  have c := blks_total x.blocks hok.blocks.2
  have c3 : lFn.length = 5 := rfl
  rw [ef]
  simp only [List.length_append, List.length_cons, List.length_nil, c3]
  omega
theorem few_len {x : Ssa} (h : Few x) (hn : Num x) : (Lib.join (linesO x) [10]).length ≤ 1000000 := by
  have := print_len h hn
  rw [List.length_append] at this
  omega
end Go.Proofs.YtmhmpobjjhbklaaGreatDoor.St
