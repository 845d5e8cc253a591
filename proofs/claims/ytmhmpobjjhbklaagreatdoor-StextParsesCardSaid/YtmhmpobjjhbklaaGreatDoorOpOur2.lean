/-
  Our opcodes: the iterator over all opcodes and their names.
-/
import Derived.Test.YtmhmpobjjhbklaaGreatDoorOpOur
set_option linter.unusedVariables false
set_option linter.unusedSimpArgs false
namespace Go.Proofs.YtmhmpobjjhbklaaGreatDoor
open Go.RowKit Go.Shelf
attribute [local go_sem] Oper.semAt_some

theorem atC {F : World → Prop} {P : Program} {c : Code} {n : Nat} {Q : Exit → Act → World → Prop} {a : Act} {Wx : World} (hf : F Wx) (h : ∀ w, F w → c.wpIn Fence.wide n P Q a w) : c.wpIn Fence.wide n P Q a Wx := h _ hf

theorem rds_fit {α : Type} {w : World} {B : Nat} {A : Option Addr} {k : Nat} {enc : α → List Value} {l : List α} (h : RdS w B A k enc l) (hp : ∀ x ∈ l, enc x ≠ []) : RdS w w.heap.size A k enc l := fun hl => by
  obtain ⟨g, o, e, hb, hc⟩ := h hl
  refine ⟨g, o, e, ?_, hc⟩
  have h0 : 0 < l.length := List.length_pos_iff.2 hl
  have hx := hp l[0] (List.getElem_mem _)
  rcases hq : enc l[0] with _ | ⟨v, r⟩
  · exact absurd hq hx
  · have := hc 0 h0 0 v (by rw [hq]; rfl)
    exact World.block_lt_of_cell? w _ this

set_option maxRecDepth 100000 in
set_option maxHeartbeats 8000000 in
theorem named_stops (n : Nat) (hn : 1 ≤ n) (w : World) (G : Glob w) :
    SeqStopsK Fence.wide n Tryz.prog 110 #[] encP KeepC (fun xs => xs = Opc.all) (fun pre => pre <+: Opc.all) Opc.all.length w := fun l J Jx W hW hJ hJx hY h0 => by
  have GW := G.below hW
  have hlen := Opc.our_len
  have hok := Opc.our_ok
  have hps : ∀ (i k : Nat) (r : Opc.O) (s : List UInt8), Opc.ourRows[i]? = some r → (Lib.fieldsD r.2.2)[k]? = some s → Opc.part i (k + 1) = Opc.part i k ++ [(r.1 + k, r.2.1 ++ s)] := fun i k r s h hk => by
    obtain ⟨hi, rfl⟩ := List.getElem?_eq_some_iff.1 h
    exact Opc.part_succ hi hk
  have hpn : ∀ (i : Nat) (r : Opc.O), Opc.ourRows[i]? = some r → Opc.part i (Lib.fieldsD r.2.2).length = Opc.part (i + 1) 0 := fun i r h => by
    obtain ⟨hi, rfl⟩ := List.getElem?_eq_some_iff.1 h
    rw [← Opc.spread_len]
    exact Opc.part_next hi
  have hpp : ∀ (i k : Nat), i < Opc.ourRows.length → Opc.part i k <+: Opc.all := fun i k h => Opc.part_pre h
  have hpa := Opc.part_all
  have hp0 : Opc.part 0 0 = [] := by rw [Opc.part_zero]; rfl
  obtain ⟨part, hpart⟩ : ∃ p, Opc.part = p := ⟨_, rfl⟩
  simp only [hpart] at hps hpn hpp hpa hp0
  have hro := fun W => orows_any W
  obtain ⟨L, hL⟩ : ∃ l, Opc.ourRows = l := ⟨_, rfl⟩
  simp only [hL] at hlen hok hps hpn hpp hpa hro
  have HRO := Lib.hid hro
  have HPS := Lib.hid hps
  have HPN := Lib.hid hpn
  have HPP := Lib.hid hpp
  have HOK := Lib.hid hok
  clear hpart hro hps hpn hpp hok
  refine callsIn_of_wp Tryz.func110 rfl trivial ?_ rfl
  simp only [Tryz.ntmps110, List.size_toArray, List.length_cons, List.length_nil, Nat.reduceAdd, Nat.reduceSub, Array.replicate_succ, Array.replicate_zero, List.push_toArray, List.append_toArray, List.nil_append, List.cons_append]
  gi_wp2_with (refine ⟨trivial, ?_⟩; gi_at_call 111; refine (callsIn_wide.2 (HRO.out _)).mono ?_; rintro e w1 ⟨⟨A, rfl, hrd⟩, hb1⟩; have hj1 := AbidesFrom.below hJ hb1 h0)
  have G1 := (Below.keepC hb1).glob GW
  have hrd2 := hrd
  clear hrd h0
  rw [← hp0] at hj1
  refine atC (F := fun W => J (part 0 0) W ∧ RdS W W.heap.size A 3 encO L ∧ Glob W) ⟨hj1, hrd2, G1⟩ ?_
  clear hj1 hrd2 G1 hb1 w1
  rintro w1 ⟨hj1, hrd, G1⟩
  gi_loopw [8] (fun iv wr => ∃ (i : Nat), iv = .int .i64 (i : Int) ∧ i ≤ L.length ∧ J (part i 0) wr ∧ RdS wr wr.heap.size A 3 encO L ∧ Glob wr) (fun iv _ => L.length - (intOf iv).toNat)
  case atStart => exact ⟨0, rfl, by omega, hj1, hrd, G1⟩
  case round =>
    obtain ⟨i, rfl, hi, hjr, hrr, Gr⟩ := hrel
    by_cases hia : i < L.length
    · obtain ⟨ga, oa, rfl, hb1, e1⟩ := hrr.get hia
      obtain ⟨o1, o2, o3, o4, o5, o6⟩ := HOK.out L[i] (List.getElem_mem _)
      have hpp' := fun k => HPP.out i k hia
      obtain ⟨⟨fi, hd, tl⟩, hv⟩ : ∃ v, L[i] = v := ⟨_, rfl⟩
      rw [hv] at e1 o1 o2 o3 o4 o5 o6
      have hget : L[i]? = some (fi, hd, tl) := by rw [List.getElem?_eq_getElem hia, hv]
      have hps' := fun k s h => HPS.out i k _ s hget h
      have hpn' := HPN.out i _ hget
      have f0 := e1 0 _ rfl
      have f1 := e1 1 _ rfl
      have f2 := e1 2 _ rfl
      dsimp only at f0 f1 f2 o1 o2 o3 o4 o5 o6
      rw [Nat.add_zero] at f0
      have x0 : (i : Int) < 24 := by omega
      have x2 : (0 : Int) ≤ (i : Int) := by omega
      have x3 : i < 24 := by omega
      have hF := fun W (G : Glob W) => fields_any tl (by omega) W G
      obtain ⟨fs, hfs⟩ : ∃ f, Lib.fieldsD tl = f := ⟨_, rfl⟩
      rw [hfs] at o5 o6
      simp only [hfs] at hF
      dsimp only at hps' hpn'
      simp only [hfs] at hps' hpn'
      have HF := Lib.hid hF
      have HR := Lib.hid hrr
      have HPS' := Lib.hid hps'
      have HPN' := Lib.hid hpn'
      have HPP' := Lib.hid hpp'
      have HO6 := Lib.hid o6
      have GR := Lib.hid Gr
      clear hrr e1 hv hget hF hps' hpn' hpp' o6 Gr hfs
      gi_wp2_with (refine ⟨trivial, ?_⟩; gi_at_call 66; refine (callsIn_wide.2 (HF.out _ ((Below.keepC ((Below.refl _ _).alloc (Nat.le_refl _) _)).glob GR.out))).mono ?_; rintro e w2 ⟨⟨A2, rfl, hrd2⟩, hb2⟩)
      have hbb : Below wr.heap.size wr (wr.alloc (.cells #[.int .i64 fi, .string ⟨hd.toArray⟩, .string ⟨tl.toArray⟩] 157)) := (Below.refl _ _).alloc (Nat.le_refl _) _
      have hVar := (Var.new wr #[.int .i64 fi, .string ⟨hd.toArray⟩, .string ⟨tl.toArray⟩] 157).below hb2 (by simp)
      have hbw : Below wr.heap.size wr w2 := below_one hb2
      have hj2 := AbidesFrom.below hJ hbw hjr
      refine atC (F := fun V => J (part i 0) V ∧ RdS V V.heap.size (some ⟨ga, oa, none⟩) 3 encO L ∧ RdS V V.heap.size A2 1 encS fs ∧ Var V wr.heap.size #[.int .i64 fi, .string ⟨hd.toArray⟩, .string ⟨tl.toArray⟩] 157 ∧ Glob V) ⟨hj2, (HR.out.keepC (Below.keepC hbw)).more hbw.size, hrd2, hVar, (Below.keepC hbw).glob GR.out⟩ ?_
      obtain ⟨K, hK⟩ : ∃ K, wr.heap.size = K := ⟨_, rfl⟩
      rw [hK]
      clear hj2 hVar hbb hbw hrd2 hb2 hjr f0 f1 f2 hb1 hrd
      clear HR GR hK w2 wr
      rintro w2 ⟨hj2, hr2, hrf, hVar, G2⟩
      gi_loopw [16] (fun kv wr => ∃ (k : Nat), kv = .int .i64 (k : Int) ∧ k ≤ fs.length ∧ J (part i k) wr ∧ RdS wr wr.heap.size (some ⟨ga, oa, none⟩) 3 encO L ∧ RdS wr wr.heap.size A2 1 encS fs ∧ Var wr K #[.int .i64 fi, .string ⟨hd.toArray⟩, .string ⟨tl.toArray⟩] 157 ∧ Glob wr) (fun kv _ => fs.length - (intOf kv).toNat)
      case atStart => exact ⟨0, rfl, by omega, hj2, hr2, hrf, hVar, G2⟩
      case round =>
        clear hj2 hr2 hrf hVar G2
        obtain ⟨k, rfl, hk, hjk, hrk, hrf, hVar, Gk⟩ := hrel
        by_cases hkf : k < fs.length
        · obtain ⟨gf, of_, rfl, hbf, e1⟩ := hrf.get hkf
          have hs := HPS'.out k fs[k] (List.getElem?_eq_getElem hkf)
          have ho6 := HO6.out fs[k] (List.getElem_mem _)
          obtain ⟨s, hsv⟩ : ∃ s, fs[k] = s := ⟨_, rfl⟩
          rw [hsv] at e1 hs ho6
          have f0 := e1 0 _ rfl
          rw [Nat.add_zero, Nat.mul_one] at f0
          have y0 := hVar.cells 0
          have y1 := hVar.cells 1
          have x0 : (k : Int) < (fs.length : Int) := by omega
          have x2 : (0 : Int) ≤ (k : Int) := by omega
          have x3 : k < fs.length := hkf
          have x4 : IntKind.i64.wrap (fi + (k : Int)) = fi + (k : Int) := by rw [IntKind.wrap_i64]; omega
          have x5 : ¬ 9223372036854775807 < hd.length + s.length := by omega
          have hpre := HPP'.out (k + 1)
          rw [hs] at hpre
          obtain ⟨fn, tmps, assign, body, hy, hR⟩ := hY (part i k) (fi + k, hd ++ s) wr hjk (Opc.pre_lt hpre)
          dsimp only [encP] at hy hR
          have HS := Lib.hid hs
          have HPR := Lib.hid hpre
          have HRK := Lib.hid hrk
          have HRF := Lib.hid hrf
          have HV := Lib.hid hVar
          have GK := Lib.hid Gk
          have HE : ByteArray.mk hd.toArray ++ ByteArray.mk s.toArray = ByteArray.mk (hd ++ s).toArray := bytes_cat _ _
          clear hs hpre hrk hrf hVar Gk e1 hsv
          gi_wp2_with (rw [HE])
          refine hR.mono ?_
          rintro e W3 (⟨rfl, hJ3, hk3⟩ | ⟨rfl, hJx3⟩)
          · rw [← HS.out] at hJ3
            have hsz3 : ∀ (a : Nat) (cs : Array Value) (t : TypeId), Var W3 a cs t → a < W3.heap.size := fun a cs t h => h.lt
            have z1 := rds_fit (HRK.out.keepC hk3) (fun _ _ => by simp [encO])
            have z2 := rds_fit (HRF.out.keepC hk3) (fun _ _ => by simp [encS])
            have z3 := hk3.var HV.out
            have z4 := hk3.glob GK.out
            clear hsz3
            have Z1 := Lib.hid z1
            have Z2 := Lib.hid z2
            have Z3 := Lib.hid z3
            have Z4 := Lib.hid z4
            clear z1 z2 z3 z4
            gi_wp2
            go_roundw
            case rel => exact ⟨k + 1, by go_num, by omega, hJ3, Z1.out, Z2.out, Z3.out, Z4.out⟩
            case measure => simp [intOf]; omega
          · gi_wp2
            refine bodyPost_ret (results_none rfl _ _ _) rfl ?_
            exact ⟨⟨_, rfl⟩, .inr ⟨_, HPR.out, hJx3⟩⟩
        · obtain rfl : k = fs.length := by omega
          rw [HPN'.out] at hjk
          have x3 : ¬ fs.length < fs.length := by omega
          have HRK := Lib.hid hrk
          have GK := Lib.hid Gk
          clear hrk hrf hVar Gk
          gi_wp2
          go_roundw
          case rel => exact ⟨i + 1, by go_num, by omega, hjk, HRK.out, GK.out⟩
          case measure => simp [intOf]; omega
    · obtain rfl : i = L.length := by omega
      rw [hpa] at hjr
      have x3 : ¬ L.length < 24 := by omega
      have x0 : ¬ (L.length : Int) < 24 := by omega
      clear hrr
      gi_wp2
      go_end0
      exact ⟨⟨_, rfl⟩, .inl hjr⟩
end Go.Proofs.YtmhmpobjjhbklaaGreatDoor
