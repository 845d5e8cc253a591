/-
  Our opcodes: the rows, and the iterator over all opcodes.
  Our opcodes: the iterator over all opcodes and their names.
  Our opcodes: Name, Known, Find.
-/
import Derived.Test.YtadnfekogmjieaaGreatDoorGGC
import Derived.RangeFuncNested
import Derived.RangeFuncFrom
import Derived.RangeFuncBound
import Derived.RangeFuncCalls
import Derived.RangeFuncLeaves
import Derived.RangeFuncBox
import Derived.Shelf.Abstract
import Derived.Shelf.RegionOpen
import Derived.WalkKit
import Derived.OwnWalkIn
import Derived.TacticsInMore
import Derived.LoopNIn
import Derived.LoopIn
set_option linter.unusedVariables false
set_option linter.unusedSimpArgs false
namespace Go.Proofs.YtadnfekogmjieaaGreatDoor
namespace Opc
theorem our_len : ourRows.length = 24 := by decide +kernel
set_option maxRecDepth 100000 in
theorem our_ok : ∀ r ∈ ourRows, 0 ≤ r.1 ∧ r.1 ≤ 100000 ∧ r.2.1.length ≤ 100 ∧ r.2.2.length ≤ 1000 ∧ (Lib.fieldsD r.2.2).length ≤ 100 ∧ ∀ s ∈ Lib.fieldsD r.2.2, s.length ≤ 100 := by decide +kernel
def part (i k : Nat) : List (Int × List UInt8) := (ourRows.take i).flatMap rowOps ++ match ourRows[i]? with | some r => (rowOps r).take k | none => []
theorem part_zero (i : Nat) : part i 0 = (ourRows.take i).flatMap rowOps := by
  unfold part
  rcases ourRows[i]? with _ | r <;> simp
theorem part_next {i : Nat} (h : i < ourRows.length) : part i (rowOps ourRows[i]).length = part (i + 1) 0 := by
  rw [part_zero, part, List.getElem?_eq_getElem h, List.take_succ_eq_append_getElem h]
  simp only [List.take_length, List.flatMap_append, List.flatMap_cons, List.flatMap_nil, List.append_nil]
theorem part_len {i : Nat} : part i 0 <+: all := by
  rw [part_zero, all]
  conv => rhs; rw [← List.take_append_drop i ourRows, List.flatMap_append]
  exact List.prefix_append _ _
theorem part_succ {i k : Nat} (h : i < ourRows.length) {s : List UInt8} (hk : (Lib.fieldsD ourRows[i].2.2)[k]? = some s) : part i (k + 1) = part i k ++ [(ourRows[i].1 + k, ourRows[i].2.1 ++ s)] := by
  have hx : ∀ (f : Int) (hd : List UInt8) (l : List (List UInt8)) (k : Nat) (s : List UInt8), l[k]? = some s → (spread f hd l)[k]? = some (f + k, hd ++ s) := by
    intro f hd l
    induction l generalizing f with
    | nil => intro k s h; simp at h
    | cons a l ih =>
      intro k s h
      cases k with
      | zero => simp at h; subst h; simp [spread]
      | succ k =>
        simp at h
        rw [spread, List.getElem?_cons_succ, ih (f + 1) k s h]
        simp; omega
  have := hx ourRows[i].1 ourRows[i].2.1 _ k s hk
  unfold part
  rw [List.getElem?_eq_getElem h]
  dsimp only
  rw [List.append_assoc]
  congr 1
  have hlt : k < (rowOps ourRows[i]).length := (List.getElem?_eq_some_iff.1 this).1
  rw [List.take_succ_eq_append_getElem hlt]
  congr 2
  exact (List.getElem?_eq_some_iff.1 this).2
theorem part_pre {i k : Nat} (h : i < ourRows.length) : part i k <+: all := by
  refine List.IsPrefix.trans ?_ (part_len (i := i + 1))
  rw [part_zero, part, List.getElem?_eq_getElem h, List.take_succ_eq_append_getElem h, List.flatMap_append]
  dsimp only
  refine List.prefix_append_right_inj _ |>.2 ?_
  simp
  exact List.take_prefix _ _
theorem part_all : part ourRows.length 0 = all := by rw [part_zero, List.take_length, all]
theorem pre_lt {α : Type} {a b : List α} {x : α} (h : a ++ [x] <+: b) : a.length < b.length := by
  have := h.length_le
  simp at this; omega
end Opc
open Go.RowKit Go.Shelf

def KeepC (W W' : World) : Prop := ∀ (b : Nat) (cs : Array Value) (t : TypeId) (f : Nat × Nat), W.heap[b]? = some (.cells cs t f) → W'.heap[b]? = some (.cells cs t f)
theorem KeepC.refl (W : World) : KeepC W W := fun _ _ _ _ h => h
theorem KeepC.trans {A B C : World} (h : KeepC A B) (k : KeepC B C) : KeepC A C := fun b cs t f e => k b cs t f (h b cs t f e)
theorem Below.keepC {W W' : World} (h : Below W.heap.size W W') : KeepC W W' := fun b cs t f e => (h.block b (Array.getElem?_eq_some_iff.1 e).1).trans e
theorem keepC_b {w : World} (W : World) (l : Nat) (o o' : Obj) (_ : w.heap.size ≤ l) (h : W.heap[l]? = some o) (hc : o.isCells = false) (_ : o.isWalk = false) : KeepC W (W.putObj l o') := fun b cs t f e => by
  have hne : b ≠ l := by
    intro hbl; subst hbl
    rw [h] at e; cases e; cases hc
  have hg := grownBy_putObj' W l o'
  exact (hg.block b (Array.getElem?_eq_some_iff.1 e).1 (by simpa using hne)).trans e
theorem KeepC.cell {W W' : World} (h : KeepC W W') {p : Addr} {v : Value} (hc : W.cell? p = some v) : W'.cell? p = some v := by
  unfold World.cell? at hc ⊢
  rcases hb : W.heap[p.block]? with _ | o
  · rw [hb] at hc; simp at hc
  · cases o with
    | cells cs t f => rw [hb] at hc; rw [h _ _ _ _ hb]; exact hc
    | _ => rw [hb] at hc; simp at hc
theorem KeepC.var {W W' : World} (h : KeepC W W') {K : Nat} {cs : Array Value} {t : TypeId} (hv : Var W K cs t) : Var W' K cs t := h _ _ _ _ hv
theorem KeepC.named {W W' : World} (h : KeepC W W') {n : String} {cs : Array Value} (hv : W.var? Tryz.prog n = some cs) : W'.var? Tryz.prog n = some cs := by
  unfold World.var? at *
  cases hg : Tryz.prog.globalNamed n with
  | none => rw [hg] at hv; cases hv
  | some g =>
    rw [hg] at hv
    simp only [Option.bind_some] at hv ⊢
    rcases hb : W.heap[g]? with _ | o
    · rw [hb] at hv; cases hv
    · cases o with
      | cells cs t f => rw [hb] at hv; rw [h _ _ _ _ hb]; exact hv
      | _ => rw [hb] at hv; cases hv
theorem KeepC.glob {W W' : World} (h : KeepC W W') (G : Glob W) : Glob W' := by
  obtain ⟨h1, ⟨t, p, h2⟩, ⟨t', p', h3⟩, h4, h5, m, h6⟩ := G
  refine ⟨h.named h1, ⟨t, p, h.named h2⟩, ⟨t', p', h.named h3⟩, h.named h4, ?_, m, h.cell h6⟩
  obtain ⟨T, oT, R, oR, k1, k2, k3, k4, k5⟩ := h5
  exact ⟨T, oT, R, oR, h.cell k1, h.cell k2, h.cell k3, h.cell k4, fun i hi => h.cell (k5 i hi)⟩
theorem RdS.keepC {α : Type} {w w' : World} {B : Nat} {A : Option Addr} {k : Nat} {enc : α → List Value} {l : List α} (h : RdS w B A k enc l) (hk : KeepC w w') : RdS w' B A k enc l := fun hl => by
  obtain ⟨g, o, e, hb, hc⟩ := h hl
  exact ⟨g, o, e, hb, fun i hi j v hv => hk.cell (hc i hi j v hv)⟩
theorem Below.grown0 {W W' : World} (h : Below W.heap.size W W') : W.grownBy W' none := ⟨h.os, h.tape, h.output, h.size, fun b hb _ => h.block b hb⟩
theorem AbidesFrom.below {β : Type} {B : Nat} {J : β → World → Prop} (h : AbidesFrom B J) {s : β} {W W' : World} (hb : Below W.heap.size W W') (hs : J s W) : J s W' := h s W W' none hs (Below.grown0 hb) (fun r e => by cases e)

def encO (r : Opc.O) : List Value := [.int .i64 r.1, .string ⟨r.2.1.toArray⟩, .string ⟨r.2.2.toArray⟩]
theorem encO_len (r : Opc.O) : (encO r).length = 3 := rfl
set_option maxHeartbeats 4000000 in
set_option maxRecDepth 100000 in
theorem orows_any (w : World) : Calls Tryz.prog 164 #[] w fun e w' => (∃ A, e = .returned (.slice A 24 24) ∧ RdS w' w'.heap.size A 3 encO Opc.ourRows) ∧ Below w.heap.size w w' := by
  go_enter Tryz.func164, Tryz.ntmps164
  go_wp2
  go_ret
  exact ⟨⟨_, rfl, block_rds encO_len (by kernel_rfl) (heap_alloc_new w _)⟩, (Below.refl _ _).alloc (Nat.le_refl _) _⟩

def encP (x : Int × List UInt8) : Array Value := #[.int .i64 x.1, .string ⟨x.2.toArray⟩]
end Go.Proofs.YtadnfekogmjieaaGreatDoor
set_option linter.unusedVariables false
set_option linter.unusedSimpArgs false
namespace Go.Proofs.YtadnfekogmjieaaGreatDoor
open Go.RowKit Go.Shelf
attribute [local go_sem] Oper.semAt_some

theorem atC {F : World → Prop} {P : Program} {c : Code} {n : Nat} {Q : Exit → Act → World → Prop} {a : Act} {Wx : World} (hf : F Wx) (h : ∀ w, F w → c.wpIn Fence.wide n P Q a w) : c.wpIn Fence.wide n P Q a Wx := h _ hf

theorem rds_fit {α : Type} {w : World} {B : Nat} {A : Option Addr} {k : Nat} {enc : α → List Value} {l : List α} (h : RdS w B A k enc l) (hp : ∀ x ∈ l, enc x ≠ []) : RdS w w.heap.size A k enc l := fun hl => by
  obtain ⟨g, o, e, hb, hc⟩ := h hl
  refine ⟨g, o, e, ?_, hc⟩
  have h0 : 0 < l.length := List.length_pos_iff.2 hl
  have hx := hp l[0] (List.getElem_mem _)
  rcases hq : enc l[0] with _ | ⟨v, r⟩
  · exact absurd hq hx
  · have := hc 0 h0 0 v (by rw [hq]; rfl)
    exact World.block_lt_of_cell? w _ this

set_option maxRecDepth 100000 in
set_option maxHeartbeats 8000000 in
theorem named_stops (n : Nat) (hn : 1 ≤ n) (w : World) (G : Glob w) :
    SeqStopsK Fence.wide n Tryz.prog 163 #[] encP KeepC (fun xs => xs = Opc.all) (fun pre => pre <+: Opc.all) Opc.all.length w := fun l J Jx W hW hJ hJx hY h0 => by
  have GW := G.below hW
  have hlen := Opc.our_len
  have hok := Opc.our_ok
  have hps : ∀ (i k : Nat) (r : Opc.O) (s : List UInt8), Opc.ourRows[i]? = some r → (Lib.fieldsD r.2.2)[k]? = some s → Opc.part i (k + 1) = Opc.part i k ++ [(r.1 + k, r.2.1 ++ s)] := fun i k r s h hk => by
    obtain ⟨hi, rfl⟩ := List.getElem?_eq_some_iff.1 h
    exact Opc.part_succ hi hk
  have hpn : ∀ (i : Nat) (r : Opc.O), Opc.ourRows[i]? = some r → Opc.part i (Lib.fieldsD r.2.2).length = Opc.part (i + 1) 0 := fun i r h => by
    obtain ⟨hi, rfl⟩ := List.getElem?_eq_some_iff.1 h
    rw [← Opc.spread_len]
    exact Opc.part_next hi
  have hpp : ∀ (i k : Nat), i < Opc.ourRows.length → Opc.part i k <+: Opc.all := fun i k h => Opc.part_pre h
  have hpa := Opc.part_all
  have hp0 : Opc.part 0 0 = [] := by rw [Opc.part_zero]; rfl
  obtain ⟨part, hpart⟩ : ∃ p, Opc.part = p := ⟨_, rfl⟩
  simp only [hpart] at hps hpn hpp hpa hp0
  have hro := fun W => orows_any W
  obtain ⟨L, hL⟩ : ∃ l, Opc.ourRows = l := ⟨_, rfl⟩
  simp only [hL] at hlen hok hps hpn hpp hpa hro
  have HRO := Lib.hid hro
  have HPS := Lib.hid hps
  have HPN := Lib.hid hpn
  have HPP := Lib.hid hpp
  have HOK := Lib.hid hok
  clear hpart hro hps hpn hpp hok
  refine callsIn_of_wp Tryz.func163 rfl trivial ?_ rfl
  simp only [Tryz.ntmps163, List.size_toArray, List.length_cons, List.length_nil, Nat.reduceAdd, Nat.reduceSub, Array.replicate_succ, Array.replicate_zero, List.push_toArray, List.append_toArray, List.nil_append, List.cons_append]
  gi_wp2_with (refine ⟨trivial, ?_⟩; gi_at_call 164; refine (callsIn_wide.2 (HRO.out _)).mono ?_; rintro e w1 ⟨⟨A, rfl, hrd⟩, hb1⟩; have hj1 := AbidesFrom.below hJ hb1 h0)
  have G1 := (Below.keepC hb1).glob GW
  have hrd2 := hrd
  clear hrd h0
  rw [← hp0] at hj1
  refine atC (F := fun W => J (part 0 0) W ∧ RdS W W.heap.size A 3 encO L ∧ Glob W) ⟨hj1, hrd2, G1⟩ ?_
  clear hj1 hrd2 G1 hb1 w1
  rintro w1 ⟨hj1, hrd, G1⟩
  gi_loopw [8] (fun iv wr => ∃ (i : Nat), iv = .int .i64 (i : Int) ∧ i ≤ L.length ∧ J (part i 0) wr ∧ RdS wr wr.heap.size A 3 encO L ∧ Glob wr) (fun iv _ => L.length - (intOf iv).toNat)
  case atStart => exact ⟨0, rfl, by omega, hj1, hrd, G1⟩
  case round =>
    obtain ⟨i, rfl, hi, hjr, hrr, Gr⟩ := hrel
    by_cases hia : i < L.length
    · obtain ⟨ga, oa, rfl, hb1, e1⟩ := hrr.get hia
      obtain ⟨o1, o2, o3, o4, o5, o6⟩ := HOK.out L[i] (List.getElem_mem _)
      have hpp' := fun k => HPP.out i k hia
      obtain ⟨⟨fi, hd, tl⟩, hv⟩ : ∃ v, L[i] = v := ⟨_, rfl⟩
      rw [hv] at e1 o1 o2 o3 o4 o5 o6
      have hget : L[i]? = some (fi, hd, tl) := by rw [List.getElem?_eq_getElem hia, hv]
      have hps' := fun k s h => HPS.out i k _ s hget h
      have hpn' := HPN.out i _ hget
      have f0 := e1 0 _ rfl
      have f1 := e1 1 _ rfl
      have f2 := e1 2 _ rfl
      dsimp only at f0 f1 f2 o1 o2 o3 o4 o5 o6
      rw [Nat.add_zero] at f0
      have x0 : (i : Int) < 24 := by omega
      have x2 : (0 : Int) ≤ (i : Int) := by omega
      have x3 : i < 24 := by omega
      have hF := fun W (G : Glob W) => fields_any tl (by omega) W G
      obtain ⟨fs, hfs⟩ : ∃ f, Lib.fieldsD tl = f := ⟨_, rfl⟩
      rw [hfs] at o5 o6
      simp only [hfs] at hF
      dsimp only at hps' hpn'
      simp only [hfs] at hps' hpn'
      have HF := Lib.hid hF
      have HR := Lib.hid hrr
      have HPS' := Lib.hid hps'
      have HPN' := Lib.hid hpn'
      have HPP' := Lib.hid hpp'
      have HO6 := Lib.hid o6
      have GR := Lib.hid Gr
      clear hrr e1 hv hget hF hps' hpn' hpp' o6 Gr hfs
      gi_wp2_with (refine ⟨trivial, ?_⟩; gi_at_call 165; refine (callsIn_wide.2 (HF.out _ ((Below.keepC ((Below.refl _ _).alloc (Nat.le_refl _) _)).glob GR.out))).mono ?_; rintro e w2 ⟨⟨A2, rfl, hrd2⟩, hb2⟩)
      have hbb : Below wr.heap.size wr (wr.alloc (.cells #[.int .i64 fi, .string ⟨hd.toArray⟩, .string ⟨tl.toArray⟩] 227)) := (Below.refl _ _).alloc (Nat.le_refl _) _
      have hVar := (Var.new wr #[.int .i64 fi, .string ⟨hd.toArray⟩, .string ⟨tl.toArray⟩] 227).below hb2 (by simp)
      have hbw : Below wr.heap.size wr w2 := below_one hb2
      have hj2 := AbidesFrom.below hJ hbw hjr
      refine atC (F := fun V => J (part i 0) V ∧ RdS V V.heap.size (some ⟨ga, oa, none⟩) 3 encO L ∧ RdS V V.heap.size A2 1 encS fs ∧ Var V wr.heap.size #[.int .i64 fi, .string ⟨hd.toArray⟩, .string ⟨tl.toArray⟩] 227 ∧ Glob V) ⟨hj2, (HR.out.keepC (Below.keepC hbw)).more hbw.size, hrd2, hVar, (Below.keepC hbw).glob GR.out⟩ ?_
      obtain ⟨K, hK⟩ : ∃ K, wr.heap.size = K := ⟨_, rfl⟩
      rw [hK]
      clear hj2 hVar hbb hbw hrd2 hb2 hjr f0 f1 f2 hb1 hrd
      clear HR GR hK w2 wr
      rintro w2 ⟨hj2, hr2, hrf, hVar, G2⟩
      gi_loopw [16] (fun kv wr => ∃ (k : Nat), kv = .int .i64 (k : Int) ∧ k ≤ fs.length ∧ J (part i k) wr ∧ RdS wr wr.heap.size (some ⟨ga, oa, none⟩) 3 encO L ∧ RdS wr wr.heap.size A2 1 encS fs ∧ Var wr K #[.int .i64 fi, .string ⟨hd.toArray⟩, .string ⟨tl.toArray⟩] 227 ∧ Glob wr) (fun kv _ => fs.length - (intOf kv).toNat)
      case atStart => exact ⟨0, rfl, by omega, hj2, hr2, hrf, hVar, G2⟩
      case round =>
        clear hj2 hr2 hrf hVar G2
        obtain ⟨k, rfl, hk, hjk, hrk, hrf, hVar, Gk⟩ := hrel
        by_cases hkf : k < fs.length
        · obtain ⟨gf, of_, rfl, hbf, e1⟩ := hrf.get hkf
          have hs := HPS'.out k fs[k] (List.getElem?_eq_getElem hkf)
          have ho6 := HO6.out fs[k] (List.getElem_mem _)
          obtain ⟨s, hsv⟩ : ∃ s, fs[k] = s := ⟨_, rfl⟩
          rw [hsv] at e1 hs ho6
          have f0 := e1 0 _ rfl
          rw [Nat.add_zero, Nat.mul_one] at f0
          have y0 := hVar.cells 0
          have y1 := hVar.cells 1
          have x0 : (k : Int) < (fs.length : Int) := by omega
          have x2 : (0 : Int) ≤ (k : Int) := by omega
          have x3 : k < fs.length := hkf
          have x4 : IntKind.i64.wrap (fi + (k : Int)) = fi + (k : Int) := by rw [IntKind.wrap_i64]; omega
          have x5 : ¬ 9223372036854775807 < hd.length + s.length := by omega
          have hpre := HPP'.out (k + 1)
          rw [hs] at hpre
          obtain ⟨fn, tmps, assign, body, hy, hR⟩ := hY (part i k) (fi + k, hd ++ s) wr hjk (Opc.pre_lt hpre)
          dsimp only [encP] at hy hR
          have HS := Lib.hid hs
          have HPR := Lib.hid hpre
          have HRK := Lib.hid hrk
          have HRF := Lib.hid hrf
          have HV := Lib.hid hVar
          have GK := Lib.hid Gk
          have HE : ByteArray.mk hd.toArray ++ ByteArray.mk s.toArray = ByteArray.mk (hd ++ s).toArray := bytes_cat _ _
          clear hs hpre hrk hrf hVar Gk e1 hsv
          gi_wp2_with (rw [HE])
          refine hR.mono ?_
          rintro e W3 (⟨rfl, hJ3, hk3⟩ | ⟨rfl, hJx3⟩)
          · rw [← HS.out] at hJ3
            have hsz3 : ∀ (a : Nat) (cs : Array Value) (t : TypeId), Var W3 a cs t → a < W3.heap.size := fun a cs t h => h.lt
            have z1 := rds_fit (HRK.out.keepC hk3) (fun _ _ => by simp [encO])
            have z2 := rds_fit (HRF.out.keepC hk3) (fun _ _ => by simp [encS])
            have z3 := hk3.var HV.out
            have z4 := hk3.glob GK.out
            clear hsz3
            have Z1 := Lib.hid z1
            have Z2 := Lib.hid z2
            have Z3 := Lib.hid z3
            have Z4 := Lib.hid z4
            clear z1 z2 z3 z4
            gi_wp2
            go_roundw
            case rel => exact ⟨k + 1, by go_num, by omega, hJ3, Z1.out, Z2.out, Z3.out, Z4.out⟩
            case measure => simp [intOf]; omega
          · gi_wp2
            refine bodyPost_ret (results_none rfl _ _ _) rfl ?_
            exact ⟨⟨_, rfl⟩, .inr ⟨_, HPR.out, hJx3⟩⟩
        · obtain rfl : k = fs.length := by omega
          rw [HPN'.out] at hjk
          have x3 : ¬ fs.length < fs.length := by omega
          have HRK := Lib.hid hrk
          have GK := Lib.hid Gk
          clear hrk hrf hVar Gk
          gi_wp2
          go_roundw
          case rel => exact ⟨i + 1, by go_num, by omega, hjk, HRK.out, GK.out⟩
          case measure => simp [intOf]; omega
    · obtain rfl : i = L.length := by omega
      rw [hpa] at hjr
      have x3 : ¬ L.length < 24 := by omega
      have x0 : ¬ (L.length : Int) < 24 := by omega
      clear hrr
      gi_wp2
      go_end0
      exact ⟨⟨_, rfl⟩, .inl hjr⟩
end Go.Proofs.YtadnfekogmjieaaGreatDoor
set_option linter.unusedVariables false
set_option linter.unusedSimpArgs false
namespace Go.Proofs.YtadnfekogmjieaaGreatDoor
namespace Opc
theorem look_hit {op : Int} {pre a : List (Int × List UInt8)} {x : Int × List UInt8} (h : look op pre = none) (hx : x.1 = op) (hp : pre ++ [x] <+: a) : look op a = some x.2 := by
  obtain ⟨r, rfl⟩ := hp
  rw [look_app, look_app, h, look, if_pos hx]; rfl
theorem look_miss {op : Int} {pre : List (Int × List UInt8)} {x : Int × List UInt8} (h : look op pre = none) (hx : x.1 ≠ op) : look op (pre ++ [x]) = none := by
  rw [look_app, h, look, if_neg hx]; rfl
theorem seek_hit {s : List UInt8} {pre a : List (Int × List UInt8)} {x : Int × List UInt8} (h : seek s pre = none) (hx : x.2 = s) (hp : pre ++ [x] <+: a) : seek s a = some x.1 := by
  obtain ⟨r, rfl⟩ := hp
  rw [seek_app, seek_app, h, seek, if_pos hx]; rfl
theorem seek_miss {s : List UInt8} {pre : List (Int × List UInt8)} {x : Int × List UInt8} (h : seek s pre = none) (hx : x.2 ≠ s) : seek s (pre ++ [x]) = none := by
  rw [seek_app, h, seek, if_neg hx]; rfl
end Opc
open Go.RowKit Go.Shelf
attribute [local go_sem] Oper.semAt_some

theorem cell_new_l (W : World) (v : Value) (t : TypeId) : (W.alloc (.cells #[v] t)).cell? ⟨W.heap.size, 0, none⟩ = some v ∧ (W.alloc (.cells #[v] t)).frozen? ⟨W.heap.size, 0, none⟩ = false :=
  ⟨by rw [(Var.new W #[v] t).cells 0]; rfl, (Var.new W #[v] t).froz 0⟩
theorem cell_alloc_l {W : World} {a : Addr} {v : Value} (o : Obj) (h : W.cell? a = some v) : (W.alloc o).cell? a = some v := cell_kept h (World.grownBy_alloc W o none) (fun r e => by cases e)
theorem frozen_alloc_l {W : World} {a : Addr} {v : Value} (o : Obj) (h : W.cell? a = some v) (hf : W.frozen? a = false) : (W.alloc o).frozen? a = false := (frozen_kept h (World.grownBy_alloc W o none) (fun r e => by cases e)).trans hf
theorem named_any (w : World) : Calls Tryz.prog 124 #[] w fun e w' => e = .returned (.func (.func 163) #[] #[]) ∧ w = w' := by
  go_enter Tryz.func124, Tryz.ntmps124
  go_wp2
  go_ret
  exact ⟨rfl, rfl⟩

set_option maxRecDepth 100000 in
set_option maxHeartbeats 8000000 in
theorem oname_in (op : Int) (w : World) (G : Glob w) : Calls Tryz.prog 70 #[.int .i64 op] w fun e w' => e = .returned (.string ⟨(Opc.name op).toArray⟩) ∧ Below w.heap.size w w' := by
  refine (callsIn_wide (n := 5)).1 ?_
  refine callsIn_of_wp_marks Tryz.func70 rfl trivial ?_ rfl
  simp only [Tryz.ntmps70, List.size_toArray, List.length_cons, List.length_nil, Nat.reduceAdd, Nat.reduceSub, Array.replicate_succ, Array.replicate_zero, List.push_toArray, List.append_toArray, List.nil_append, List.cons_append]
  gi_wp2_with (refine ⟨trivial, ?_⟩; gi_at_call 124; refine (callsIn_wide.2 (named_any _)).mono ?_; rintro e w1 ⟨rfl, rfl⟩)
  have c0 := cell_new_l w (.int .i64 op) 55
  have c1 := cell_new_l (w.alloc (.cells #[.int .i64 op] 55)) (.string ⟨#[]⟩) 9
  simp only [World.size_alloc] at c1
  have hB0 : Below w.heap.size w ((w.alloc (.cells #[.int .i64 op] 55)).alloc (.cells #[.string ⟨#[]⟩] 9)) := ((Below.refl _ w).alloc (Nat.le_refl _) _).alloc (by simp) _
  refine wpIn_rangeFunc_ownF rfl (by omega) (gf := 163) (lb := #[]) rfl trivial (enters_of Tryz.func163 (by kernel_rfl) rfl)
    (named_stops 4 (by omega) _ (G.below hB0)) KeepC.trans (@keepC_b _) (Below.refl _ _) (fun _ => rfl)
    (fun pre W => (Opc.look op pre = none ∧ W.cell? ⟨w.heap.size, 0, none⟩ = some (.int .i64 op) ∧ W.cell? ⟨w.heap.size + 1, 0, none⟩ = some (.string ⟨#[]⟩) ∧ W.frozen? ⟨w.heap.size + 1, 0, none⟩ = false) ∧ Below w.heap.size w W)
    (fun c pre W => (c = .ret ∧ ∃ p x, Opc.look op p = none ∧ x.1 = op ∧ pre = p ++ [x] ∧ W.cell? ⟨w.heap.size + 1, 0, none⟩ = some (.string ⟨x.2.toArray⟩)) ∧ Below w.heap.size w W)
    (OwnFrom.and (Own.from (fun s A B row hs hg hr => ⟨hs.1, cell_kept hs.2.1 hg hr, cell_kept hs.2.2.1 hg hr, (frozen_kept hs.2.2.1 hg hr).trans hs.2.2.2⟩) _) (ownFrom_below (Nat.le_refl _) (by simp; omega)))
    (fun c => OwnFrom.and (Own.from (fun s A B row hs hg hr => by obtain ⟨h1, p, x, h2, h3, h4, h5⟩ := hs; exact ⟨h1, p, x, h2, h3, h4, cell_kept h5 hg hr⟩) _) (ownFrom_below (Nat.le_refl _) (by simp; omega)))
    ⟨⟨rfl, cell_alloc_l _ c0.1, c1.1, c1.2⟩, hB0⟩
    (fun x => { tmps := #[.int .i64 op, .pointer (some ⟨w.heap.size, 0, none⟩), .pointer (some ⟨w.heap.size + 1, 0, none⟩), .int .i64 x.1, .string ⟨x.2.toArray⟩, .func (.func 163) #[] #[], .int .i64 x.1, .string ⟨x.2.toArray⟩, undef, undef, undef, undef], defers := [] }) ?assign ?body ?done ?stop
  case assign =>
    intro l x W K hK
    dsimp only [encP]
    gi_wp2
    exact hK
  case body =>
    rintro l pre ⟨xo, xn⟩ W ⟨⟨hp, hcw, hcr, hfr⟩, hB⟩ _
    dsimp only
    rcases hq : (xo == op) with _ | _
    · gi_wp2
      exact ⟨KeepsOthers.refl _, KeepC.refl _, ⟨Opc.look_miss hp (by simpa using hq), hcw, hcr, hfr⟩, hB⟩
    · gi_wp2
      exact ⟨KeepsOthers.setCell _ _ _, ⟨rfl, pre, (xo, xn), hp, by simpa using hq, rfl, World.cell?_setCell_same' _ _ _ (by rw [hcr]; rfl)⟩, hB.setCell (p := ⟨w.heap.size + 1, 0, none⟩) (by simp) _⟩
  case done =>
    rintro D ys W hD rfl ⟨⟨hne, _, hcr, hfr⟩, hB⟩ hK
    have hnm : Opc.name op = [] := by rw [Opc.name, hne]; rfl
    gi_wp2
    have hK' := (KeepsOthers.setCell W ⟨w.heap.size + 1, 0, none⟩ (.string ⟨#[]⟩)).same D _ hK rfl
    refine ⟨by simp, .inl ⟨_, _, rfl, run_takeDeferred hK', ?_⟩⟩
    have hc5 := cell_kept (World.cell?_setCell_same' W ⟨w.heap.size + 1, 0, none⟩ (.string ⟨#[]⟩) (by rw [hcr]; rfl)) (grownBy_putObj' _ D (.deferred none)) (fun r e => by cases e; exact ⟨_, hK', rfl⟩)
    refine ⟨.string ⟨#[]⟩, ?_, by rw [hnm], (hB.setCell (p := ⟨w.heap.size + 1, 0, none⟩) (by simp) _).trans (belowK_b (w := w) (Nat.le_refl _) _ D _ _ (by simp at hD; omega) hK' rfl rfl)⟩
    simp [results, Tryz.f70, go_sem, hc5]
  case stop =>
    rintro D c pre W hD hpre ⟨⟨rfl, p, x, h1, h2, rfl, hcr⟩, hB⟩ hK
    have hnm : Opc.name op = x.2 := by rw [Opc.name, Opc.look_hit h1 h2 hpre]; rfl
    gi_wp2
    refine ⟨by simp, .inl ⟨_, _, rfl, run_takeDeferred hK, ?_⟩⟩
    have hc5 := cell_kept hcr (grownBy_putObj' _ D (.deferred none)) (fun r e => by cases e; exact ⟨_, hK, rfl⟩)
    refine ⟨.string ⟨x.2.toArray⟩, ?_, by rw [hnm], hB.trans (belowK_b (w := w) (Nat.le_refl _) W D _ _ (by simp at hD; omega) hK rfl rfl)⟩
    simp [results, Tryz.f70, go_sem, hc5]

theorem oknown_any (op : Int) (w : World) (G : Glob w) : Calls Tryz.prog 121 #[.int .i64 op] w fun e w' => e = .returned (.bool (!(Opc.name op == []))) ∧ Below w.heap.size w w' := by
  have HN := Lib.hid (oname_in op w G)
  have hq := beq_bytes (Opc.name op) []
  obtain ⟨nm, hnm⟩ : ∃ x, Opc.name op = x := ⟨_, rfl⟩
  rw [hnm] at HN hq ⊢
  rcases ho : decide (nm = []) with _ | _
  · have hb : (nm == []) = false := by simpa using ho
    have hne := bne_no (show nm ≠ [] by simpa using ho)
    clear hq ho
    go_enter Tryz.func121, Tryz.ntmps121
    go_wp2_with (go_at_call 70; refine HN.out.mono ?_; rintro e w1 ⟨rfl, hb⟩)
    go_ret
    exact ⟨by first | rfl | (congr 1; congr 1; rw [‹(nm == []) = false›]; first | rfl | exact hne), ‹Below _ _ _›⟩
  · obtain rfl : nm = [] := by simpa using ho
    clear hq ho
    go_enter Tryz.func121, Tryz.ntmps121
    go_wp2_with (go_at_call 70; refine HN.out.mono ?_; rintro e w1 ⟨rfl, hb⟩)
    go_ret
    exact ⟨rfl, ‹Below _ _ _›⟩

set_option maxRecDepth 100000 in
set_option maxHeartbeats 8000000 in
theorem ofind_any (s : List UInt8) (w : World) (G : Glob w) : Calls Tryz.prog 93 #[.string ⟨s.toArray⟩] w fun e w' => e = .returned (found (Opc.seek s Opc.all)) ∧ Below w.heap.size w w' := by
  refine (callsIn_wide (n := 5)).1 ?_
  refine callsIn_of_wp_marks Tryz.func93 rfl trivial ?_ rfl
  simp only [Tryz.ntmps93, List.size_toArray, List.length_cons, List.length_nil, Nat.reduceAdd, Nat.reduceSub, Array.replicate_succ, Array.replicate_zero, List.push_toArray, List.append_toArray, List.nil_append, List.cons_append]
  gi_wp2_with (refine ⟨trivial, ?_⟩; gi_at_call 124; refine (callsIn_wide.2 (named_any _)).mono ?_; rintro e w1 ⟨rfl, rfl⟩)
  have c0 := cell_new_l w (.string ⟨s.toArray⟩) 9
  have c1 := cell_new_l (w.alloc (.cells #[.string ⟨s.toArray⟩] 9)) (.int .i64 0) 55
  have c2 := cell_new_l ((w.alloc (.cells #[.string ⟨s.toArray⟩] 9)).alloc (.cells #[.int .i64 0] 55)) (.bool false) 4
  simp only [World.size_alloc] at c1 c2
  have hB0 : Below w.heap.size w (((w.alloc (.cells #[.string ⟨s.toArray⟩] 9)).alloc (.cells #[.int .i64 0] 55)).alloc (.cells #[.bool false] 4)) := (((Below.refl _ w).alloc (Nat.le_refl _) _).alloc (by simp) _).alloc (by simp; omega) _
  refine wpIn_rangeFunc_ownF rfl (by omega) (gf := 163) (lb := #[]) rfl trivial (enters_of Tryz.func163 (by kernel_rfl) rfl)
    (named_stops 4 (by omega) _ (G.below hB0)) KeepC.trans (@keepC_b _) (Below.refl _ _) (fun _ => rfl)
    (fun pre W => (Opc.seek s pre = none ∧ W.cell? ⟨w.heap.size, 0, none⟩ = some (.string ⟨s.toArray⟩) ∧ W.cell? ⟨w.heap.size + 1, 0, none⟩ = some (.int .i64 0) ∧ W.frozen? ⟨w.heap.size + 1, 0, none⟩ = false ∧ W.cell? ⟨w.heap.size + 1 + 1, 0, none⟩ = some (.bool false) ∧ W.frozen? ⟨w.heap.size + 1 + 1, 0, none⟩ = false) ∧ Below w.heap.size w W)
    (fun c pre W => (c = .ret ∧ ∃ p x, Opc.seek s p = none ∧ x.2 = s ∧ pre = p ++ [x] ∧ W.cell? ⟨w.heap.size + 1, 0, none⟩ = some (.int .i64 x.1) ∧ W.cell? ⟨w.heap.size + 1 + 1, 0, none⟩ = some (.bool true)) ∧ Below w.heap.size w W)
    (OwnFrom.and (Own.from (fun s A B row hs hg hr => ⟨hs.1, cell_kept hs.2.1 hg hr, cell_kept hs.2.2.1 hg hr, (frozen_kept hs.2.2.1 hg hr).trans hs.2.2.2.1, cell_kept hs.2.2.2.2.1 hg hr, (frozen_kept hs.2.2.2.2.1 hg hr).trans hs.2.2.2.2.2⟩) _) (ownFrom_below (Nat.le_refl _) (by simp; omega)))
    (fun c => OwnFrom.and (Own.from (fun s A B row hs hg hr => by obtain ⟨h1, p, x, h2, h3, h4, h5, h6⟩ := hs; exact ⟨h1, p, x, h2, h3, h4, cell_kept h5 hg hr, cell_kept h6 hg hr⟩) _) (ownFrom_below (Nat.le_refl _) (by simp; omega)))
    ⟨⟨rfl, cell_alloc_l _ (cell_alloc_l _ c0.1), cell_alloc_l _ c1.1, frozen_alloc_l _ c1.1 c1.2, c2.1, c2.2⟩, hB0⟩
    (fun x => { tmps := #[.string ⟨s.toArray⟩, .pointer (some ⟨w.heap.size, 0, none⟩), .pointer (some ⟨w.heap.size + 1, 0, none⟩), .pointer (some ⟨w.heap.size + 1 + 1, 0, none⟩), .int .i64 x.1, .string ⟨x.2.toArray⟩, .func (.func 163) #[] #[], .int .i64 x.1, .string ⟨x.2.toArray⟩, undef, undef, undef, undef], defers := [] }) ?assign ?body ?done ?stop
  case assign =>
    intro l x W K hK
    dsimp only [encP]
    gi_wp2
    exact hK
  case body =>
    rintro l pre ⟨xo, xn⟩ W ⟨⟨hp, hcw, hcr, hfr, hcs, hfs⟩, hB⟩ _
    dsimp only
    have hqb := beq_bytes xn s
    rcases hq : decide (xn = s) with _ | _
    · have hq2 : (xn == s) = false := by simpa using hq
      have hm := Opc.seek_miss (x := (xo, xn)) hp (by simpa using hq)
      rw [hq] at hqb
      clear hq
      gi_wp2
      exact ⟨KeepsOthers.refl _, KeepC.refl _, ⟨hm, hcw, hcr, hfr, hcs, hfs⟩, hB⟩
    · have hq2 : (xn == s) = true := by simpa using hq
      have hm : xn = s := by simpa using hq
      rw [hq] at hqb
      clear hq
      gi_wp2
      refine ⟨(KeepsOthers.setCell _ _ _).trans (KeepsOthers.setCell _ _ _), ⟨rfl, pre, (xo, xn), hp, hm, rfl, ?_, ?_⟩, (hB.setCell (p := ⟨w.heap.size + 1, 0, none⟩) (by simp) _).setCell (p := ⟨w.heap.size + 1 + 1, 0, none⟩) (by simp; omega) _⟩
      · rw [World.cell?_setCell_other _ _ _ _ (by simp)]
        exact World.cell?_setCell_same' _ _ _ (by rw [hcr]; rfl)
      · exact World.cell?_setCell_same' _ _ _ (by rw [World.cell?_setCell_other _ _ _ _ (by simp), hcs]; rfl)
  case done =>
    rintro D ys W hD rfl ⟨⟨hne, _, hcr, hfr, hcs, hfs⟩, hB⟩ hK
    have hnm : found (Opc.seek s Opc.all) = .tuple #[.int .i64 0, .bool false] := by rw [hne]; rfl
    gi_wp2
    have hK' := ((KeepsOthers.setCell W ⟨w.heap.size + 1, 0, none⟩ (.int .i64 0)).trans (KeepsOthers.setCell _ ⟨w.heap.size + 1 + 1, 0, none⟩ (.bool false))).same D _ hK rfl
    refine ⟨by simp, .inl ⟨_, _, rfl, run_takeDeferred hK', ?_⟩⟩
    have hc5 := cell_kept ((World.cell?_setCell_other (W.setCell ⟨w.heap.size + 1, 0, none⟩ (.int .i64 0)) ⟨w.heap.size + 1 + 1, 0, none⟩ ⟨w.heap.size + 1, 0, none⟩ (.bool false) (by simp)).trans (World.cell?_setCell_same' W ⟨w.heap.size + 1, 0, none⟩ (.int .i64 0) (by rw [hcr]; rfl))) (grownBy_putObj' _ D (.deferred none)) (fun r e => by cases e; exact ⟨_, hK', rfl⟩)
    have hc6 := cell_kept (World.cell?_setCell_same' (W.setCell ⟨w.heap.size + 1, 0, none⟩ (.int .i64 0)) ⟨w.heap.size + 1 + 1, 0, none⟩ (.bool false) (by rw [World.cell?_setCell_other _ _ _ _ (by simp), hcs]; rfl)) (grownBy_putObj' _ D (.deferred none)) (fun r e => by cases e; exact ⟨_, hK', rfl⟩)
    refine ⟨.tuple #[.int .i64 0, .bool false], ?_, by rw [hnm], ((hB.setCell (p := ⟨w.heap.size + 1, 0, none⟩) (by simp) _).setCell (p := ⟨w.heap.size + 1 + 1, 0, none⟩) (by simp; omega) _).trans (belowK_b (w := w) (Nat.le_refl _) _ D _ _ (by simp at hD; omega) hK' rfl rfl)⟩
    simp [results, Tryz.f93, go_sem, hc5, hc6]
  case stop =>
    rintro D c pre W hD hpre ⟨⟨rfl, p, x, h1, h2, rfl, hcr, hcs⟩, hB⟩ hK
    have hnm : found (Opc.seek s Opc.all) = .tuple #[.int .i64 x.1, .bool true] := by rw [Opc.seek_hit h1 h2 hpre]; rfl
    gi_wp2
    refine ⟨by simp, .inl ⟨_, _, rfl, run_takeDeferred hK, ?_⟩⟩
    have hc5 := cell_kept hcr (grownBy_putObj' _ D (.deferred none)) (fun r e => by cases e; exact ⟨_, hK, rfl⟩)
    have hc6 := cell_kept hcs (grownBy_putObj' _ D (.deferred none)) (fun r e => by cases e; exact ⟨_, hK, rfl⟩)
    refine ⟨.tuple #[.int .i64 x.1, .bool true], ?_, by rw [hnm], hB.trans (belowK_b (w := w) (Nat.le_refl _) W D _ _ (by simp at hD; omega) hK rfl rfl)⟩
    simp [results, Tryz.f93, go_sem, hc5, hc6]
end Go.Proofs.YtadnfekogmjieaaGreatDoor
