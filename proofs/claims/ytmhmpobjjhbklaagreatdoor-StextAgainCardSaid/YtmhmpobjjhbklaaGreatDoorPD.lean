/-
  Layer 40: few, alive, the frame.
-/
import Derived.Test.YtmhmpobjjhbklaaGreatDoorSR4
import Derived.Test.YtmhmpobjjhbklaaGreatDoorPB
import Derived.Test.YtmhmpobjjhbklaaGreatDoorPC
import Derived.Test.YtmhmpobjjhbklaaGreatDoorRows
import Derived.Deep.Slices
import Derived.Deep.Fields
import Derived.ChangeSame
import Derived.OpenShut
import Derived.Stop.FmtTextKit
import Derived.Lib.SmallJoins
import Derived.Lay
import Derived.LaidMore
import Derived.Lib.LaidU8
import Derived.Lib.LaidTab
import Derived.Stop.Joined
import Derived.Stop.LaidErr
import Derived.ProofKit
set_option linter.unusedVariables false
set_option linter.unusedSimpArgs false
namespace Go.Proofs.YtmhmpobjjhbklaaGreatDoor
namespace St
def insSum (l : List Ins) (k : Nat) : Nat := ((l.take k).map fun y => y.args.length + y.outs.length).sum
def edSum (l : List Edge) (k : Nat) : Nat := ((l.take k).map fun e => e.args.length).sum
def bTot (b : Blk) : Nat := b.params.length + b.ins.length + b.fin.args.length + b.fin.edges.length + insSum b.ins 1000 + edSum b.fin.edges 1000
def bSum (l : List Blk) (k : Nat) : Nat := ((l.take k).map bTot).sum
def tot (x : Ssa) : Nat := x.ps.length + x.rs.length + x.vals.length + bSum x.blocks 100
def fewB (x : Ssa) : Bool := decide (x.blocks.length ≤ 60) && decide (tot x ≤ 900)
/-- No slice takes more than an address space. -/
structure Big (x : Ssa) : Prop where
  ps : x.ps.length ≤ 17592186044416
  rs : x.rs.length ≤ 17592186044416
  vals : x.vals.length ≤ 17592186044416
  blocks : x.blocks.length ≤ 17592186044416
  blk : ∀ b ∈ x.blocks, b.params.length ≤ 17592186044416 ∧ b.ins.length ≤ 17592186044416 ∧ b.fin.args.length ≤ 17592186044416 ∧ b.fin.edges.length ≤ 17592186044416 ∧
    (∀ y ∈ b.ins, y.args.length ≤ 17592186044416 ∧ y.outs.length ≤ 17592186044416) ∧ ∀ e ∈ b.fin.edges, e.args.length ≤ 17592186044416
theorem sum_le {α : Type} (f : α → Nat) (C : Nat) : ∀ (l : List α) (k : Nat), (∀ x ∈ l, f x ≤ C) → ((l.take k).map f).sum ≤ k * C
  | [], k, _ => by simp
  | x :: l, 0, _ => by simp
  | x :: l, k + 1, h => by
    have h1 := h x (by simp)
    have h2 := sum_le f C l k (fun z hz => h z (by simp [hz]))
    rw [List.take_succ_cons, List.map_cons, List.sum_cons, Nat.succ_mul]
    omega
theorem sum_succ {α : Type} (f : α → Nat) (l : List α) (k : Nat) (hk : k < l.length) : ((l.take (k + 1)).map f).sum = ((l.take k).map f).sum + f l[k] := by
  rw [List.take_add_one, List.getElem?_eq_getElem hk]
  simp only [Option.toList_some, List.map_append, List.map_cons, List.map_nil, List.sum_append_nat, List.sum_cons, List.sum_nil, Nat.add_zero]
theorem take_end {α : Type} (l : List α) (i m : Nat) (h1 : i ≤ l.length) (h2 : i ≤ m) (h3 : ¬ (i < l.length ∧ i < m)) : l.take i = l.take m := by
  by_cases h : i = m
  · rw [h]
  · have : i = l.length := by omega
    rw [this, List.take_length, List.take_of_length_le (by omega)]
theorem insSum_le {b : Blk} (h : ∀ y ∈ b.ins, y.args.length ≤ 17592186044416 ∧ y.outs.length ≤ 17592186044416) (k : Nat) : insSum b.ins k ≤ k * 35184372088832 :=
  sum_le _ _ _ _ fun y hy => by have := h y hy; show y.args.length + y.outs.length ≤ _; omega
theorem edSum_le {b : Blk} (h : ∀ e ∈ b.fin.edges, e.args.length ≤ 17592186044416) (k : Nat) : edSum b.fin.edges k ≤ k * 17592186044416 := sum_le _ _ _ _ fun e he => h e he
theorem Big.sum {x : Ssa} (h : Big x) (k : Nat) : bSum x.blocks k ≤ k * 52846926877425664 := by
  refine sum_le _ _ _ _ fun b hb => ?_
  obtain ⟨h1, h2, h3, h4, h5, h6⟩ := h.blk b hb
  have := insSum_le h5 1000
  have := edSum_le h6 1000
  unfold bTot
  omega
end St
open Go.RowKit
open St (InR)
theorem below_drew (W : World) : Below W.heap.size W W.drew := ⟨rfl, rfl, rfl, Nat.le_refl _, fun _ _ => rfl⟩
set_option maxHeartbeats 16000000 in
set_option maxRecDepth 100000 in
theorem few_any (x : St.Ssa) (hx : St.Big x) (S : Nat → Prop) (P R V B : Option Addr) (c1 c2 c3 c4 : Nat) (w : World) (h : SsaAt S w x P R V B) :
    Calls Tryz.prog 7 #[ssaV x P c1 R c2 V c3 B c4] w fun e w' => e = .returned (.bool (St.fewB x)) ∧ Below w.heap.size w w' := by
  unfold ssaV
  have hsum := hx.sum
  obtain ⟨ps, rs, vals, blocks⟩ := x
  obtain ⟨m1, m2, m3, m4, m5⟩ := hx
  obtain ⟨r1, r2, r3, r4⟩ := h
  dsimp only at *
  obtain ⟨M, hM⟩ : ∃ b, St.fewB ⟨ps, rs, vals, blocks⟩ = b := ⟨_, rfl⟩
  rw [hM]
  have HM := Lib.hid hM
  have HB4 := Lib.hid (fun W (hb : Below w.heap.size w W) => RdT.blkOn r4 hb)
  have HM5 := Lib.hid m5
  have HSU := Lib.hid hsum
  obtain ⟨n0, hn0⟩ : ∃ n, n = ps.length + rs.length + vals.length := ⟨_, rfl⟩
  have a1 : IntKind.i64.wrap ((ps.length : Int) + (rs.length : Int)) = (ps.length : Int) + (rs.length : Int) := by rw [IntKind.wrap_i64]; omega
  have a2 : IntKind.i64.wrap ((ps.length : Int) + (rs.length : Int) + (vals.length : Int)) = (n0 : Int) := by rw [IntKind.wrap_i64]; omega
  have HN0 := Lib.hid hn0
  have HN1 : Hid (n0 ≤ 52776558133248) := Lib.hid (by omega)
  clear r1 r2 r3 r4 hM m5 hsum
  go_enter Tryz.func7, Tryz.ntmps7
  go_upto_region 2 with fail
  refine at_code (F := fun W => Var W w.heap.size #[.slice P ps.length c1, .slice R rs.length c2, .slice V vals.length c3, .slice B blocks.length c4] 27 ∧ Below w.heap.size w W) ⟨Var.new w _ _, (Below.refl _ w).alloc (Nat.le_refl _) _⟩ ?_
  rintro w0 ⟨V0, B0⟩
  clear a1 a2
  go_wp2
  go_loopw [3, 4] (fun nv iv wr => ∃ i n : Nat, iv = .int .i64 (i : Int) ∧ nv = .int .i64 (n : Int) ∧ i ≤ blocks.length ∧ i ≤ 100 ∧ n = n0 + St.bSum blocks i ∧ Hid (Var wr w.heap.size #[.slice P ps.length c1, .slice R rs.length c2, .slice V vals.length c3, .slice B blocks.length c4] 27) ∧ Hid (Below w.heap.size w wr)) (fun _ iv _ => blocks.length - (intOf iv).toNat)
  case atStart => exact ⟨0, n0, rfl, by rw [show ((n0 : Nat) : Int) = (ps.length : Int) + (rs.length : Int) + (vals.length : Int) from by rw [HN0.out]; simp], by omega, by omega, by simp [St.bSum], Lib.hid V0, Lib.hid B0⟩
  case round =>
    clear V0 B0 hn0
    obtain ⟨i, n, rfl, rfl, hi, hi2, hn, V0, B0⟩ := hrel
    obtain ⟨y0, y1, y2, y3⟩ := cells4 V0.out
    have hsu := HSU.out i
    have hn1 := HN1.out
    by_cases hia : i < blocks.length ∧ i < 100
    · obtain ⟨hia, hib⟩ := hia
      obtain ⟨g, o, rfl, hsg, hg, hblk⟩ := (HB4.out _ B0.out).get hia
      have hok := HM5.out blocks[i] (List.getElem_mem _)
      have hnx := St.sum_succ St.bTot blocks i hia
      obtain ⟨b, hbv⟩ : ∃ b, blocks[i] = b := ⟨_, rfl⟩
      rw [hbv] at hblk hok hnx
      have hins : ∀ k, St.insSum b.ins k ≤ k * 35184372088832 := St.insSum_le hok.2.2.2.2.1
      have heds : ∀ k, St.edSum b.fin.edges k ≤ k * 17592186044416 := St.edSum_le hok.2.2.2.2.2
      obtain ⟨Ap, cp, Ai, ci, Aa, ca, At, ct, ⟨q0, q1, q2, q3, q4, q5, q6⟩, p1, p2, p3, p4⟩ := hblk.seven
      obtain ⟨params, ins, fin⟩ := b
      obtain ⟨fk, fc, fa, fe, ft⟩ := fin
      dsimp only at q0 q1 q2 q3 q4 q5 q6 p1 p2 p3 p4 hok hins heds
      obtain ⟨k1, k2, k3, k4, k5, k6⟩ := hok
      have x0 : (i : Int) < (blocks.length : Int) := by omega
      have x1 : (i : Int) < 100 := by omega
      have x2 : (0 : Int) ≤ (i : Int) := by omega
      have hi3 : i ≤ 99 := by omega
      have hnb : n ≤ 5284622327132233216 := by omega
      obtain ⟨n2, hn2⟩ : ∃ m, m = n + params.length + ins.length + fa.length + fe.length := ⟨_, rfl⟩
      have b1 : IntKind.i64.wrap ((n : Int) + (params.length : Int)) = (n : Int) + (params.length : Int) := by rw [IntKind.wrap_i64]; omega
      have b2 : IntKind.i64.wrap ((n : Int) + (params.length : Int) + (ins.length : Int)) = (n : Int) + (params.length : Int) + (ins.length : Int) := by rw [IntKind.wrap_i64]; omega
      have b3 : IntKind.i64.wrap ((n : Int) + (params.length : Int) + (ins.length : Int) + (fa.length : Int)) = (n : Int) + (params.length : Int) + (ins.length : Int) + (fa.length : Int) := by rw [IntKind.wrap_i64]; omega
      have b4 : IntKind.i64.wrap ((n : Int) + (params.length : Int) + (ins.length : Int) + (fa.length : Int) + (fe.length : Int)) = (n : Int) + (params.length : Int) + (ins.length : Int) + (fa.length : Int) + (fe.length : Int) := by rw [IntKind.wrap_i64]; omega
      have e4 : (n : Int) + (params.length : Int) + (ins.length : Int) + (fa.length : Int) + (fe.length : Int) = (n2 : Int) := by rw [hn2]; simp
      have HE4 := Lib.hid e4
      have HN2 : Hid (n2 ≤ 5284692695876395008) := Lib.hid (by omega)
      have HNX : Hid (n2 + St.insSum ins 1000 + St.edSum fe 1000 = n0 + St.bSum blocks (i + 1)) := Lib.hid (by
        unfold St.bSum at hn ⊢
        rw [hnx, hn2, hn]
        unfold St.bTot
        dsimp only
        omega)
      have HINS := Lib.hid hins
      have HEDS := Lib.hid heds
      have HP2 := Lib.hid p2
      have HP4 := Lib.hid p4
      have HB1 := Lib.hid ((Below.refl wr.heap.size wr).alloc (Nat.le_refl _) (.cells #[.slice Ap params.length cp, .slice Ai ins.length ci, .int .i64 fk, .int .i64 fc, .slice Aa fa.length ca, .slice At fe.length ct, .int .i64 ft] 44))
      have HK5 := Lib.hid k5
      have HK6 := Lib.hid k6
      clear hnx hbv hblk p1 p2 p3 p4 hins heds k5 k6 hn hsu hn1 e4 hn2
      obtain ⟨K, hK⟩ : ∃ K, wr.heap.size = K := ⟨_, rfl⟩
      have HK0 := Lib.hid hK
      clear hK
      go_upto_region 7 with fail
      have hK := HK0.out
      refine at_code (F := fun W => Hid (Var W K #[.slice Ap params.length cp, .slice Ai ins.length ci, .int .i64 fk, .int .i64 fc, .slice Aa fa.length ca, .slice At fe.length ct, .int .i64 ft] 44) ∧ Hid (Var W w.heap.size #[.slice P ps.length c1, .slice R rs.length c2, .slice V vals.length c3, .slice (some ⟨g, o, none⟩) blocks.length c4] 27) ∧ Hid (RdT W S Ai 7 (InsAt S) ins) ∧ Hid (RdT W S At 2 (EdgeAt S) fe) ∧ Hid (Below w.heap.size w W)) ⟨Lib.hid (Var.newE _ _ _ hK), Lib.hid (V0.out.alloc _), Lib.hid (HP2.out.insOn HB1.out), Lib.hid (HP4.out.edgeOn HB1.out), Lib.hid (B0.out.trans (HB1.out.mono B0.out.size))⟩ ?_
      simp only [hK]
      clear V0 B0 HP2 HP4 HB1 q0 q1 q2 q3 q4 q5 q6 hg y0 y1 y2 y3 b1 b2 b3 b4
      clear hK HK0 hnb
      rintro w1 ⟨VK, V0, hin, hed, B0⟩
      go_wp2
      go_loopw [3, 6] (fun mv jv wq => ∃ j m : Nat, jv = .int .i64 (j : Int) ∧ mv = .int .i64 (m : Int) ∧ j ≤ ins.length ∧ j ≤ 1000 ∧ Hid (m = n2 + St.insSum ins j) ∧ Hid (Var wq K #[.slice Ap params.length cp, .slice Ai ins.length ci, .int .i64 fk, .int .i64 fc, .slice Aa fa.length ca, .slice At fe.length ct, .int .i64 ft] 44) ∧ Hid (Var wq w.heap.size #[.slice P ps.length c1, .slice R rs.length c2, .slice V vals.length c3, .slice (some ⟨g, o, none⟩) blocks.length c4] 27) ∧ Hid (RdT wq S Ai 7 (InsAt S) ins) ∧ Hid (RdT wq S At 2 (EdgeAt S) fe) ∧ Hid (Below w.heap.size w wq)) (fun _ jv _ => ins.length - (intOf jv).toNat)
      case atStart => exact ⟨0, n2, rfl, by rw [HE4.out], by omega, by omega, Lib.hid (by simp [St.insSum]), VK, V0, hin, hed, B0⟩
      case round =>
        clear VK V0 hin hed B0
        obtain ⟨j, m, rfl, rfl, hj, hj2, HM1, VK, V0, hin, hed, B0⟩ := hrel
        obtain ⟨t0, t1, t2, t3, t4, t5, t6⟩ := cells7 VK.out
        have hsu := HINS.out j
        have hn2b := HN2.out
        have hm1 := HM1.out
        by_cases hja : j < ins.length ∧ j < 1000
        · obtain ⟨hja, hjb⟩ := hja
          obtain ⟨gi, oi, rfl, hsi, hgi, d0, d1, d2, d3, d4, ⟨A5, c5, d5, _⟩, A6, c6, d6, _⟩ := hin.out.get hja
          have hk := HK5.out ins[j] (List.getElem_mem _)
          have hnx := St.sum_succ (fun y => y.args.length + y.outs.length) ins j hja
          obtain ⟨y, hyv⟩ : ∃ y, ins[j] = y := ⟨_, rfl⟩
          rw [hyv] at d5 d6 hk hnx
          obtain ⟨ik, iop, ia, ib, inn, iar, iou⟩ := y
          dsimp only at d5 d6 hk hnx
          have HM2 : Hid (m + iar.length + iou.length = n2 + St.insSum ins (j + 1)) := Lib.hid (by
            unfold St.insSum at hm1 ⊢
            rw [hnx, hm1]
            omega)
          have hmb : m ≤ 5284692695876395008 + 999 * 35184372088832 := by omega
          have z0 : (j : Int) < (ins.length : Int) := by omega
          have z1 : (j : Int) < 1000 := by omega
          have z2 : (0 : Int) ≤ (j : Int) := by omega
          have b1 : IntKind.i64.wrap ((m : Int) + (iar.length : Int)) = (m : Int) + (iar.length : Int) := by rw [IntKind.wrap_i64]; omega
          have b2 : IntKind.i64.wrap ((m : Int) + (iar.length : Int) + (iou.length : Int)) = (m : Int) + (iar.length : Int) + (iou.length : Int) := by rw [IntKind.wrap_i64]; omega
          have e2 : (m : Int) + (iar.length : Int) + (iou.length : Int) = ((m + iar.length + iou.length : Nat) : Int) := by simp
          have HE2 := Lib.hid e2
          clear hyv hnx e2 d0 d1 d2 d3 d4 hm1 hsu hn2b hk hmb t0 t2 t3 t4 t5 t6
          go_upto_region 10 with fail
          go_quiet (fail)
          go_wp2
          go_roundw
          case rel => exact ⟨j + 1, m + iar.length + iou.length, by go_num, by rw [HE2.out], by omega, by omega, HM2, Lib.hid (VK.out.below (below_drewN wr _) VK.out.lt), Lib.hid (V0.out.below (below_drewN wr _) V0.out.lt), Lib.hid (hin.out.insOn (below_drewN wr _)), Lib.hid (hed.out.edgeOn (below_drewN wr _)), Lib.hid (B0.out.trans ((below_drewN wr _).mono B0.out.size))⟩
          case measure => simp [intOf]; omega
        · have htk := St.take_end ins j 1000 hj hj2 hja
          have HM3 : Hid (m = n2 + St.insSum ins 1000) := Lib.hid (by rw [hm1]; unfold St.insSum; rw [htk])
          have hex : ¬ (j : Int) < (ins.length : Int) ∨ ((j : Int) < (ins.length : Int) ∧ ¬ (j : Int) < 1000) := by omega
          have HB2 : Hid (m ≤ 5284692695876395008 + 1000 * 35184372088832) := Lib.hid (by have := HM3.out; have := HINS.out 1000; omega)
          clear htk hm1 hsu hn2b t0 t2 t3 t4 t5 t6
          rcases hex with z0 | ⟨z0, z1⟩
          all_goals

            go_wp2
            go_loopw [3, 7] (fun mv kv wq => ∃ k q : Nat, kv = .int .i64 (k : Int) ∧ mv = .int .i64 (q : Int) ∧ k ≤ fe.length ∧ k ≤ 1000 ∧ Hid (q = m + St.edSum fe k) ∧ Hid (Var wq K #[.slice Ap params.length cp, .slice Ai ins.length ci, .int .i64 fk, .int .i64 fc, .slice Aa fa.length ca, .slice At fe.length ct, .int .i64 ft] 44) ∧ Hid (Var wq w.heap.size #[.slice P ps.length c1, .slice R rs.length c2, .slice V vals.length c3, .slice (some ⟨g, o, none⟩) blocks.length c4] 27) ∧ Hid (RdT wq S At 2 (EdgeAt S) fe) ∧ Hid (Below w.heap.size w wq)) (fun _ kv _ => fe.length - (intOf kv).toNat)
            case atStart => exact ⟨0, m, rfl, rfl, by omega, by omega, Lib.hid (by simp [St.edSum]), VK, V0, hed, B0⟩
            case round =>
              clear VK V0 hin hed B0
              obtain ⟨k, q, rfl, rfl, hk, hk2, HQ1, VK, V0, hed, B0⟩ := hrel
              obtain ⟨t0, t1, t2, t3, t4, t5, t6⟩ := cells7 VK.out
              have hsu := HEDS.out k
              have hn2b := HB2.out
              have hm1 := HQ1.out
              by_cases hka : k < fe.length ∧ k < 1000
              · obtain ⟨hka, hkb⟩ := hka
                obtain ⟨ge, oe, rfl, hse, hge, f0, A7, c7, f1, _⟩ := hed.out.get hka
                have hk7 := HK6.out fe[k] (List.getElem_mem _)
                have hnx := St.sum_succ (fun e : St.Edge => e.args.length) fe k hka
                obtain ⟨y, hyv⟩ : ∃ y, fe[k] = y := ⟨_, rfl⟩
                rw [hyv] at f0 f1 hk7 hnx
                obtain ⟨tg, ear⟩ := y
                dsimp only at f0 f1 hk7 hnx
                have HQ2 : Hid (q + ear.length = m + St.edSum fe (k + 1)) := Lib.hid (by
                  unfold St.edSum at hm1 ⊢
                  rw [hnx, hm1]
                  omega)
                have hmb : q ≤ 5284692695876395008 + 1000 * 35184372088832 + 999 * 17592186044416 := by omega
                have a0 : (k : Int) < (fe.length : Int) := by omega
                have a1 : (k : Int) < 1000 := by omega
                have a2 : (0 : Int) ≤ (k : Int) := by omega
                have b1 : IntKind.i64.wrap ((q : Int) + (ear.length : Int)) = (q : Int) + (ear.length : Int) := by rw [IntKind.wrap_i64]; omega
                have e2 : (q : Int) + (ear.length : Int) = ((q + ear.length : Nat) : Int) := by simp
                have HE2 := Lib.hid e2
                clear hyv hnx e2 hm1 hsu hn2b hk7 hmb t0 t1 t2 t3 t4 t6 f0
                go_wp2
                go_roundw
                case rel => exact ⟨k + 1, q + ear.length, by go_num, by rw [HE2.out], by omega, by omega, HQ2, VK, V0, hed, B0⟩
                case measure => simp [intOf]; omega
              · have htk := St.take_end fe k 1000 hk hk2 hka
                have HQ3 : Hid (q = n0 + St.bSum blocks (i + 1)) := Lib.hid (by
                  have h1 : q = m + St.edSum fe 1000 := by rw [hm1]; unfold St.edSum; rw [htk]
                  have h2 := HM3.out
                  have h3 := HNX.out
                  omega)
                have hex : ¬ (k : Int) < (fe.length : Int) ∨ ((k : Int) < (fe.length : Int) ∧ ¬ (k : Int) < 1000) := by omega
                clear htk hm1 hsu hn2b t0 t1 t2 t3 t4 t6
                rcases hex with a0 | ⟨a0, a1⟩
                all_goals
                  go_wp2
                  go_roundw
                  case rel => exact ⟨i + 1, q, by go_num, rfl, by omega, by omega, HQ3.out, V0, B0⟩
                  case measure => simp [intOf]; omega
    · have htk := St.take_end blocks i 100 hi hi2 hia
      have HF : Hid (n = St.tot ⟨ps, rs, vals, blocks⟩) := Lib.hid (by
        have h0 := HN0.out
        unfold St.tot St.bSum
        unfold St.bSum at hn
        dsimp only
        rw [hn, htk, h0])
      have hex : ¬ (i : Int) < (blocks.length : Int) ∨ ((i : Int) < (blocks.length : Int) ∧ ¬ (i : Int) < 100) := by omega
      clear htk hn hsu hn1
      by_cases hb60 : blocks.length ≤ 60
      · by_cases hn9 : n ≤ 900
        · have HG : Hid (M = true) := Lib.hid (by
            rw [← HM.out]; unfold St.fewB; rw [← HF.out]
            simp [hb60, hn9])
          have g1 : ((blocks.length : Int) ≤ 60) := by omega
          have g2 : ((n : Int) ≤ 900) := by omega
          rcases hex with z0 | ⟨z0, z1⟩
          all_goals first
            | (exfalso; omega)
            | (go_wp2; go_ret; exact ⟨by rw [HG.out]; rfl, B0.out⟩)
        · have HG : Hid (M = false) := Lib.hid (by
            rw [← HM.out]; unfold St.fewB; rw [← HF.out]
            simp [hn9])
          have g1 : ((blocks.length : Int) ≤ 60) := by omega
          have g2 : ¬ ((n : Int) ≤ 900) := by omega
          rcases hex with z0 | ⟨z0, z1⟩
          all_goals first
            | (exfalso; omega)
            | (go_wp2; go_ret; exact ⟨by rw [HG.out]; rfl, B0.out⟩)
      · have HG : Hid (M = false) := Lib.hid (by
          rw [← HM.out]; unfold St.fewB
          simp [hb60])
        have g1 : ¬ ((blocks.length : Int) ≤ 60) := by omega
        rcases hex with z0 | ⟨z0, z1⟩
        all_goals
          go_wp2
          go_ret
          exact ⟨by rw [HG.out]; rfl, B0.out⟩
end Go.Proofs.YtmhmpobjjhbklaaGreatDoor
set_option linter.unusedVariables false
set_option linter.unusedSimpArgs false
namespace Go.Proofs.YtmhmpobjjhbklaaGreatDoor
namespace St
def ex : Ssa := ⟨[1], [1], [1, 1], [⟨[], [⟨0, 0, 0, 0, 0, [], [0]⟩, ⟨3, 103, 0, 0, 0, [0], [1]⟩], ⟨3, 0, [1], [], 0⟩⟩]⟩
def exT : W := [102, 117, 110, 99, 32, 40, 105, 51, 50, 41, 32, 45, 62, 32, 40, 105, 51, 50, 41, 10, 118, 97, 108, 115, 32, 105, 51, 50, 32, 105, 51, 50, 10, 98, 108, 111, 99, 107, 10, 32, 32, 112, 97, 114, 97, 109, 32, 116, 111, 32, 48, 10, 32, 32, 117, 110, 32, 111, 112, 32, 105, 51, 50, 46, 99, 108, 122, 32, 111, 102, 32, 48, 32, 116, 111, 32, 49, 10, 32, 32, 101, 110, 100, 32, 114, 101, 116, 117, 114, 110, 32, 111, 102, 32, 49, 10]
theorem in0 : InR 0 := by unfold InR; omega
theorem in1 : InR 1 := by unfold InR; omega
theorem ex_num : Num ex := by
  refine ⟨fun b hb y hy => ?_, fun b hb => ?_, fun b hb z hz => ?_⟩
  · obtain rfl := List.mem_singleton.1 hb
    dsimp only at hy
    rcases List.mem_cons.1 hy with rfl | hy
    · exact ⟨in0, in0, by decide, by simp, fun z hz => by obtain rfl := List.mem_singleton.1 hz; exact in0⟩
    · obtain rfl := List.mem_singleton.1 hy
      exact ⟨in0, in0, by decide, fun z hz => by obtain rfl := List.mem_singleton.1 hz; exact in0, fun z hz => by obtain rfl := List.mem_singleton.1 hz; exact in1⟩
  · obtain rfl := List.mem_singleton.1 hb
    exact ⟨in0, in0, fun z hz => by obtain rfl := List.mem_singleton.1 hz; exact in1, by simp⟩
  · obtain rfl := List.mem_singleton.1 hb
    simp at hz
theorem ex_few : Few ex := by unfold Few; decide
theorem ex_ok : ex.Ok := few_ok ex_few ex_num
set_option maxRecDepth 100000 in
theorem ex_may : may ex = true := by decide +kernel
theorem itoa0 : Lib.itoa 0 = [48] := by
  show (if (0 : Int) < 0 then _ else Lib.decDigits (0 : Int).toNat) = _
  rw [if_neg (by omega), dec_small (by decide)]
  rfl
theorem itoa1 : Lib.itoa 1 = [49] := by
  show (if (1 : Int) < 0 then _ else Lib.decDigits (1 : Int).toNat) = _
  rw [if_neg (by omega), dec_small (by decide)]
  rfl
set_option maxRecDepth 100000 in
theorem kw0 : kindw 0 = [112, 97, 114, 97, 109] := by decide +kernel
set_option maxRecDepth 100000 in
theorem kw3 : kindw 3 = [117, 110] := by decide +kernel
set_option maxRecDepth 100000 in
theorem ew3 : (word endW 3).1 = [114, 101, 116, 117, 114, 110] := by decide +kernel
set_option maxRecDepth 100000 in
theorem op103 : Opc.name 103 = [105, 51, 50, 46, 99, 108, 122] := by decide +kernel
theorem ex_print : printO ex = exT := by
  rw [print_eq]
  unfold printR
  rw [if_pos ex_may]
  unfold bodyR ex Ty.text Ty.list blkR insR finR opR rfield nR rlist
  simp only [List.map_cons, List.map_nil, List.flatMap_cons, List.flatMap_nil, kw0, kw3, ew3, op103, itoa0, itoa1, Lib.join_one]
  decide
theorem parse_ex : parseO exT = (ex, 0, 0) := by rw [← ex_print]; exact parse_back ex ex_ok ex_may
theorem parse_nil : parseO [] = (empty, 1, 4) := by
  unfold parseO
  rw [split_no (by decide)]
  rfl
end St
end Go.Proofs.YtmhmpobjjhbklaaGreatDoor
set_option linter.unusedVariables false
set_option linter.unusedSimpArgs false
namespace Go.Proofs.YtmhmpobjjhbklaaGreatDoor
open Go.RowKit
open St (InR)
/-- A form that a law holds. -/
structure FAt (w W : World) (K : Nat) (x : St.Ssa) (S : Nat → Prop) (P : Option Addr) (c1 : Nat) (R : Option Addr) (c2 : Nat) (V : Option Addr) (c3 : Nat) (B : Option Addr) (c4 : Nat) : Prop where
  var : Var W K #[.slice P x.ps.length c1, .slice R x.rs.length c2, .slice V x.vals.length c3, .slice B x.blocks.length c4] 27
  frm : SsaAt S W x P R V B
  gl : Glob W
  bel : Below w.heap.size w W
section
variable {w W W' : World} {K : Nat} {x : St.Ssa} {S : Nat → Prop} {P R V B : Option Addr} {c1 c2 c3 c4 : Nat}
theorem FAt.new (h : SsaAt S w x P R V B) (G : Glob w) : FAt w (w.alloc (.cells #[.slice P x.ps.length c1, .slice R x.rs.length c2, .slice V x.vals.length c3, .slice B x.blocks.length c4] 27)) w.heap.size x S P c1 R c2 V c3 B c4 := by
  have hb := (Below.refl w.heap.size w).alloc (Nat.le_refl _) (.cells #[.slice P x.ps.length c1, .slice R x.rs.length c2, .slice V x.vals.length c3, .slice B x.blocks.length c4] 27)
  exact ⟨Var.new _ _ _, h.on hb, G.below hb, hb⟩
theorem FAt.step (h : FAt w W K x S P c1 R c2 V c3 B c4) (hb : Below W.heap.size W W') : FAt w W' K x S P c1 R c2 V c3 B c4 :=
  ⟨var_keep h.var hb, h.frm.on hb, h.gl.below hb, h.bel.trans (hb.mono h.bel.size)⟩
theorem FAt.drew (h : FAt w W K x S P c1 R c2 V c3 B c4) : FAt w W.drew K x S P c1 R c2 V c3 B c4 := h.step (below_drew W)
theorem FAt.cells (h : FAt w W K x S P c1 R c2 V c3 B c4) : W.cell? ⟨K, 0, none⟩ = some (.slice P x.ps.length c1) ∧ W.cell? ⟨K, 1, none⟩ = some (.slice R x.rs.length c2) ∧ W.cell? ⟨K, 2, none⟩ = some (.slice V x.vals.length c3) ∧ W.cell? ⟨K, 3, none⟩ = some (.slice B x.blocks.length c4) := cells4 h.var
end
section
variable {α : Type} {w : World} {g o k : Nat} {R : World → Nat → Nat → α → Prop} {a b : α}
theorem RdT.of1 (h : R w g o a) (hg : g < w.heap.size) : RdT w (fun _ => True) (some ⟨g, o, none⟩) k R [a] := fun _ =>
  ⟨g, o, rfl, trivial, hg, fun i hi => by
    have : i = 0 := by simpa using hi
    subst this
    rw [Nat.zero_mul, Nat.add_zero]
    exact h⟩
theorem RdT.of2 (h : R w g o a) (h' : R w g (o + k) b) (hg : g < w.heap.size) : RdT w (fun _ => True) (some ⟨g, o, none⟩) k R [a, b] := fun _ =>
  ⟨g, o, rfl, trivial, hg, fun i hi => by
    have : i = 0 ∨ i = 1 := by simp at hi; omega
    rcases this with rfl | rfl
    · rw [Nat.zero_mul, Nat.add_zero]; exact h
    · rw [Nat.one_mul]; exact h'⟩
end
theorem below_al {w W : World} (h : Below w.heap.size w W) (o : Obj) : Below w.heap.size w (W.alloc o) := h.alloc h.size o
/-- The example as the law lays it out. -/
theorem ex_at (w : World) (G : Glob w) : ∃ (S : Nat → Prop) (P : Option Addr) (c1 : Nat) (R : Option Addr) (c2 : Nat) (V : Option Addr) (c3 : Nat) (B : Option Addr) (c4 : Nat),
    FAt w (((((((((w.alloc (.cells #[.int .i64 1] 51)).alloc (.cells #[.int .i64 1, .int .i64 1] 51)).alloc (.cells #[.int .i64 0] 3)).alloc (.cells #[.int .i64 0] 3)).alloc (.cells #[.int .i64 1] 3)).alloc
      (.cells #[.int .i64 0, .int .i64 0, .int .i64 0, .int .i64 0, .int .u64 0, .slice none 0 0, .slice (some ⟨w.heap.size + 1 + 1, 0, none⟩) 1 1, .int .i64 3, .int .i64 103, .int .i64 0, .int .i64 0, .int .u64 0, .slice (some ⟨w.heap.size + 1 + 1 + 1, 0, none⟩) 1 1, .slice (some ⟨w.heap.size + 1 + 1 + 1 + 1, 0, none⟩) 1 1] 48)).alloc
      (.cells #[.int .i64 1] 3)).alloc (.cells #[.slice none 0 0, .slice (some ⟨w.heap.size + 1 + 1 + 1 + 1 + 1, 0, none⟩) 2 2, .int .i64 3, .int .i64 0, .slice (some ⟨w.heap.size + 1 + 1 + 1 + 1 + 1 + 1, 0, none⟩) 1 1, .slice none 0 0, .int .i64 0] 44)).alloc
      (.cells #[.slice (some ⟨w.heap.size, 0, none⟩) 1 1, .slice (some ⟨w.heap.size, 0, none⟩) 1 1, .slice (some ⟨w.heap.size + 1, 0, none⟩) 2 2, .slice (some ⟨w.heap.size + 1 + 1 + 1 + 1 + 1 + 1 + 1, 0, none⟩) 1 1] 27)) (w.heap.size + 1 + 1 + 1 + 1 + 1 + 1 + 1 + 1) St.ex S P c1 R c2 V c3 B c4 := by
  refine ⟨fun _ => True, some ⟨w.heap.size, 0, none⟩, 1, some ⟨w.heap.size, 0, none⟩, 1, some ⟨w.heap.size + 1, 0, none⟩, 2, some ⟨w.heap.size + 1 + 1 + 1 + 1 + 1 + 1 + 1, 0, none⟩, 1, ?_⟩
  have hbel := below_al (below_al (below_al (below_al (below_al (below_al (below_al (below_al (below_al (Below.refl w.heap.size w) (.cells #[.int .i64 1] 51)) (.cells #[.int .i64 1, .int .i64 1] 51)) (.cells #[.int .i64 0] 3)) (.cells #[.int .i64 0] 3)) (.cells #[.int .i64 1] 3))
      (.cells #[.int .i64 0, .int .i64 0, .int .i64 0, .int .i64 0, .int .u64 0, .slice none 0 0, .slice (some ⟨w.heap.size + 1 + 1, 0, none⟩) 1 1, .int .i64 3, .int .i64 103, .int .i64 0, .int .i64 0, .int .u64 0, .slice (some ⟨w.heap.size + 1 + 1 + 1, 0, none⟩) 1 1, .slice (some ⟨w.heap.size + 1 + 1 + 1 + 1, 0, none⟩) 1 1] 48))
      (.cells #[.int .i64 1] 3)) (.cells #[.slice none 0 0, .slice (some ⟨w.heap.size + 1 + 1 + 1 + 1 + 1, 0, none⟩) 2 2, .int .i64 3, .int .i64 0, .slice (some ⟨w.heap.size + 1 + 1 + 1 + 1 + 1 + 1, 0, none⟩) 1 1, .slice none 0 0, .int .i64 0] 44))
      (.cells #[.slice (some ⟨w.heap.size, 0, none⟩) 1 1, .slice (some ⟨w.heap.size, 0, none⟩) 1 1, .slice (some ⟨w.heap.size + 1, 0, none⟩) 2 2, .slice (some ⟨w.heap.size + 1 + 1 + 1 + 1 + 1 + 1 + 1, 0, none⟩) 1 1] 27)
  have v0 := ((((((((Var.new w #[.int .i64 1] 51).alloc (.cells #[.int .i64 1, .int .i64 1] 51)).alloc (.cells #[.int .i64 0] 3)).alloc (.cells #[.int .i64 0] 3)).alloc (.cells #[.int .i64 1] 3)).alloc
      (.cells #[.int .i64 0, .int .i64 0, .int .i64 0, .int .i64 0, .int .u64 0, .slice none 0 0, .slice (some ⟨w.heap.size + 1 + 1, 0, none⟩) 1 1, .int .i64 3, .int .i64 103, .int .i64 0, .int .i64 0, .int .u64 0, .slice (some ⟨w.heap.size + 1 + 1 + 1, 0, none⟩) 1 1, .slice (some ⟨w.heap.size + 1 + 1 + 1 + 1, 0, none⟩) 1 1] 48)).alloc
      (.cells #[.int .i64 1] 3)).alloc (.cells #[.slice none 0 0, .slice (some ⟨w.heap.size + 1 + 1 + 1 + 1 + 1, 0, none⟩) 2 2, .int .i64 3, .int .i64 0, .slice (some ⟨w.heap.size + 1 + 1 + 1 + 1 + 1 + 1, 0, none⟩) 1 1, .slice none 0 0, .int .i64 0] 44)).alloc
      (.cells #[.slice (some ⟨w.heap.size, 0, none⟩) 1 1, .slice (some ⟨w.heap.size, 0, none⟩) 1 1, .slice (some ⟨w.heap.size + 1, 0, none⟩) 2 2, .slice (some ⟨w.heap.size + 1 + 1 + 1 + 1 + 1 + 1 + 1, 0, none⟩) 1 1] 27)
  generalize hW : (((((((((w.alloc (.cells #[.int .i64 1] 51)).alloc (.cells #[.int .i64 1, .int .i64 1] 51)).alloc (.cells #[.int .i64 0] 3)).alloc (.cells #[.int .i64 0] 3)).alloc (.cells #[.int .i64 1] 3)).alloc
      (.cells #[.int .i64 0, .int .i64 0, .int .i64 0, .int .i64 0, .int .u64 0, .slice none 0 0, .slice (some ⟨w.heap.size + 1 + 1, 0, none⟩) 1 1, .int .i64 3, .int .i64 103, .int .i64 0, .int .i64 0, .int .u64 0, .slice (some ⟨w.heap.size + 1 + 1 + 1, 0, none⟩) 1 1, .slice (some ⟨w.heap.size + 1 + 1 + 1 + 1, 0, none⟩) 1 1] 48)).alloc
      (.cells #[.int .i64 1] 3)).alloc (.cells #[.slice none 0 0, .slice (some ⟨w.heap.size + 1 + 1 + 1 + 1 + 1, 0, none⟩) 2 2, .int .i64 3, .int .i64 0, .slice (some ⟨w.heap.size + 1 + 1 + 1 + 1 + 1 + 1, 0, none⟩) 1 1, .slice none 0 0, .int .i64 0] 44)).alloc
      (.cells #[.slice (some ⟨w.heap.size, 0, none⟩) 1 1, .slice (some ⟨w.heap.size, 0, none⟩) 1 1, .slice (some ⟨w.heap.size + 1, 0, none⟩) 2 2, .slice (some ⟨w.heap.size + 1 + 1 + 1 + 1 + 1 + 1 + 1, 0, none⟩) 1 1] 27)) = W at hbel v0 ⊢
  have v1 : Var W (w.heap.size + 1) #[.int .i64 1, .int .i64 1] 51 := by rw [← hW]; exact (((((((Var.newE _ _ _ (by simp)).alloc _).alloc _).alloc _).alloc _).alloc _).alloc _).alloc _
  have v2 : Var W (w.heap.size + 1 + 1) #[.int .i64 0] 3 := by rw [← hW]; exact ((((((Var.newE _ _ _ (by simp)).alloc _).alloc _).alloc _).alloc _).alloc _).alloc _
  have v3 : Var W (w.heap.size + 1 + 1 + 1) #[.int .i64 0] 3 := by rw [← hW]; exact (((((Var.newE _ _ _ (by simp)).alloc _).alloc _).alloc _).alloc _).alloc _
  have v4 : Var W (w.heap.size + 1 + 1 + 1 + 1) #[.int .i64 1] 3 := by rw [← hW]; exact ((((Var.newE _ _ _ (by simp)).alloc _).alloc _).alloc _).alloc _
  have v5 : Var W (w.heap.size + 1 + 1 + 1 + 1 + 1) #[.int .i64 0, .int .i64 0, .int .i64 0, .int .i64 0, .int .u64 0, .slice none 0 0, .slice (some ⟨w.heap.size + 1 + 1, 0, none⟩) 1 1, .int .i64 3, .int .i64 103, .int .i64 0, .int .i64 0, .int .u64 0, .slice (some ⟨w.heap.size + 1 + 1 + 1, 0, none⟩) 1 1, .slice (some ⟨w.heap.size + 1 + 1 + 1 + 1, 0, none⟩) 1 1] 48 := by rw [← hW]; exact (((Var.newE _ _ _ (by simp)).alloc _).alloc _).alloc _
  have v6 : Var W (w.heap.size + 1 + 1 + 1 + 1 + 1 + 1) #[.int .i64 1] 3 := by rw [← hW]; exact ((Var.newE _ _ _ (by simp)).alloc _).alloc _
  have v7 : Var W (w.heap.size + 1 + 1 + 1 + 1 + 1 + 1 + 1) #[.slice none 0 0, .slice (some ⟨w.heap.size + 1 + 1 + 1 + 1 + 1, 0, none⟩) 2 2, .int .i64 3, .int .i64 0, .slice (some ⟨w.heap.size + 1 + 1 + 1 + 1 + 1 + 1, 0, none⟩) 1 1, .slice none 0 0, .int .i64 0] 44 := by rw [← hW]; exact (Var.newE _ _ _ (by simp)).alloc _
  have v8 : Var W (w.heap.size + 1 + 1 + 1 + 1 + 1 + 1 + 1 + 1) #[.slice (some ⟨w.heap.size, 0, none⟩) 1 1, .slice (some ⟨w.heap.size, 0, none⟩) 1 1, .slice (some ⟨w.heap.size + 1, 0, none⟩) 2 2, .slice (some ⟨w.heap.size + 1 + 1 + 1 + 1 + 1 + 1 + 1, 0, none⟩) 1 1] 27 := by rw [← hW]; exact Var.newE _ _ _ (by simp)
  clear hW
  refine ⟨v8, ⟨RdT.of1 (v0.cells 0) v0.lt, RdT.of1 (v0.cells 0) v0.lt, RdT.of2 (v1.cells 0) (v1.cells 1) v1.lt, RdT.of1 ?_ v7.lt⟩, G.below hbel, hbel⟩
  refine ⟨⟨_, _, v7.cells 0, RdT.nil_⟩, ⟨_, _, v7.cells 1, RdT.of2 ?_ ?_ v5.lt⟩, v7.cells 2, v7.cells 3, ⟨_, _, v7.cells 4, RdT.of1 (v6.cells 0) v6.lt⟩, ⟨_, _, v7.cells 5, RdT.nil_⟩, v7.cells 6⟩
  · exact ⟨v5.cells 0, v5.cells 1, v5.cells 2, v5.cells 3, v5.cells 4, ⟨_, _, v5.cells 5, RdT.nil_⟩, _, _, v5.cells 6, RdT.of1 (v2.cells 0) v2.lt⟩
  · exact ⟨v5.cells 7, v5.cells 8, v5.cells 9, v5.cells 10, v5.cells 11, ⟨_, _, v5.cells 12, RdT.of1 (v3.cells 0) v3.lt⟩, _, _, v5.cells 13, RdT.of1 (v4.cells 0) v4.lt⟩
set_option maxHeartbeats 4000000 in
set_option maxRecDepth 100000 in
theorem alive_any (w : World) (G : Glob w) : Calls Tryz.prog 8 #[] w fun e w' => e = .returned (.bool true) ∧ Below w.heap.size w w' := by
  have HEX := Lib.hid (ex_at w G)
  have HP := Lib.hid (fun S P c1 R c2 V c3 B c4 W (h : SsaAt S W St.ex P R V B) (G : Glob W) => sprint_any St.ex St.ex_ok (St.few_len St.ex_few St.ex_num) S P R V B c1 c2 c3 c4 W h G)
  have HS := Lib.hid (fun W (G : Glob W) => sparse_any St.exT (by decide) (St.split_lnok (by decide)).1 W G)
  have HS0 := Lib.hid (fun W (G : Glob W) => sparse_any [] (by decide) (St.split_lnok (by decide)).1 W G)
  have HSM := Lib.hid (fun (S T : Nat → Prop) P R V B c1 c2 c3 c4 P2 R2 V2 B2 d1 d2 d3 d4 W (h1 : SsaAt S W St.ex P R V B) (h2 : SsaAt T W St.ex P2 R2 V2 B2) => rsame_any S T St.ex St.ex St.ex_ok P R V B P2 R2 V2 B2 c1 c2 c3 c4 d1 d2 d3 d4 W h1 h2)
  rw [St.ex_print] at HP
  rw [St.parse_ex] at HS
  rw [St.parse_nil] at HS0
  rw [(St.ssaSame_iff St.ex St.ex).2 rfl] at HSM
  unfold ParseOut at HS HS0
  unfold ssaV at HP HS HS0 HSM
  have heq : (St.exT == [102, 117, 110, 99, 32, 40, 105, 51, 50, 41, 32, 45, 62, 32, 40, 105, 51, 50, 41, 10, 118, 97, 108, 115, 32, 105, 51, 50, 32, 105, 51, 50, 10, 98, 108, 111, 99, 107, 10, 32, 32, 112, 97, 114, 97, 109, 32, 116, 111, 32, 48, 10, 32, 32, 117, 110, 32, 111, 112, 32, 105, 51, 50, 46, 99, 108, 122, 32, 111, 102, 32, 48, 32, 116, 111, 32, 49, 10, 32, 32, 101, 110, 100, 32, 114, 101, 116, 117, 114, 110, 32, 111, 102, 32, 49, 10]) = true := by decide
  obtain ⟨T, hT⟩ : ∃ T, St.exT = T := ⟨_, rfl⟩
  rw [hT] at HP HS heq
  obtain ⟨x, hx⟩ : ∃ x, St.ex = x := ⟨_, rfl⟩
  rw [hx] at HP HS HSM HEX
  obtain ⟨⟨ps, rs, vals, blocks⟩, hx2⟩ : ∃ y, x = y := ⟨_, rfl⟩
  rw [hx2] at HP HS HSM HEX
  dsimp only at HP HS HS0 HSM
  have HQ := Lib.hid heq
  clear hT hx hx2 G heq
  go_enter Tryz.func8, Tryz.ntmps8
  go_upto_region 3 with fail
  refine at_code (F := fun W => ∃ (S : Nat → Prop) (P : Option Addr) (c1 : Nat) (R : Option Addr) (c2 : Nat) (V : Option Addr) (c3 : Nat) (B : Option Addr) (c4 : Nat), FAt w W (w.heap.size + 1 + 1 + 1 + 1 + 1 + 1 + 1 + 1) ⟨ps, rs, vals, blocks⟩ S P c1 R c2 V c3 B c4) HEX.out ?_
  rintro W0 ⟨S, P, c1, R, c2, V, c3, B, c4, I0⟩
  obtain ⟨d0, d1, d2, d3⟩ := I0.cells
  dsimp only at d0 d1 d2 d3
  obtain ⟨K, hK⟩ : ∃ K, w.heap.size + 1 + 1 + 1 + 1 + 1 + 1 + 1 + 1 = K := ⟨_, rfl⟩
  rw [hK] at d0 d1 d2 d3 I0
  simp only [hK]
  go_upto_region 5 with (first
    | (go_at_call 9; with_reducible refine (HP.out _ _ _ _ _ _ _ _ _ _ I0.frm I0.gl).mono ?_; rintro e w1 ⟨rfl, hb⟩; have I1 := I0.step hb; clear hb d0 d1 d2 d3 I0)
    | (go_at_call 11; with_reducible refine (HS.out _ I1.gl).mono ?_; rintro e w3 ⟨⟨S', P', e1, R', e2, V', e3, B', e4, rfl, hsa⟩, hb⟩; have HJ := Lib.hid (I1.step hb); have HSA := Lib.hid hsa; clear hb I1 hsa))
  refine at_code (F := fun W => FAt w W K ⟨ps, rs, vals, blocks⟩ S P c1 R c2 V c3 B c4 ∧ FAt w3 W w3.heap.size ⟨ps, rs, vals, blocks⟩ S' P' e1 R' e2 V' e3 B' e4) ⟨HJ.out.step ((Below.refl _ _).alloc (Nat.le_refl _) _), FAt.new HSA.out HJ.out.gl⟩ ?_
  rintro w4 ⟨I4, J4⟩
  have HJ4 := Lib.hid J4
  clear J4
  obtain ⟨K2, hK2⟩ : ∃ K2, w3.heap.size = K2 := ⟨_, rfl⟩
  rw [hK2] at HJ4
  simp only [hK2]
  clear hK2
  go_upto_region 6 with (go_at_call 11; with_reducible refine (HS0.out _ I4.gl).mono ?_; rintro e w5 ⟨⟨S5, P5, f1, R5, f2, V5, f3, B5, f4, rfl, hsa⟩, hb⟩; have HI5 := Lib.hid (I4.step hb); have HJ5 := Lib.hid (HJ4.out.step hb); clear hb I4 hsa HJ4)
  refine at_code (F := fun W => FAt w W K ⟨ps, rs, vals, blocks⟩ S P c1 R c2 V c3 B c4 ∧ FAt w3 W K2 ⟨ps, rs, vals, blocks⟩ S' P' e1 R' e2 V' e3 B' e4) ⟨HI5.out.step ((Below.refl _ _).alloc (Nat.le_refl _) _), HJ5.out.step ((Below.refl _ _).alloc (Nat.le_refl _) _)⟩ ?_
  rintro w6 ⟨I6, J6⟩
  obtain ⟨d0, d1, d2, d3⟩ := I6.cells
  obtain ⟨h0, h1, h2, h3⟩ := J6.cells
  dsimp only at d0 d1 d2 d3 h0 h1 h2 h3
  have hq := HQ.out
  go_wp2_with (go_at_call 13; with_reducible refine (HSM.out _ _ _ _ _ _ _ _ _ _ _ _ _ _ _ _ _ _ _ I6.frm J6.frm).mono ?_; rintro e w7 ⟨rfl, hb⟩; have I7 := (I6.step hb); clear hb d0 d1 d2 d3 h0 h1 h2 h3 I6 J6)
  go_ret
  exact ⟨rfl, I7.bel⟩
end Go.Proofs.YtmhmpobjjhbklaaGreatDoor
set_option linter.unusedVariables false
set_option linter.unusedSimpArgs false
namespace Go.Proofs.YtmhmpobjjhbklaaGreatDoor
open Go.ChangeShapes Go.WideShapes Go.Deep Go.RowKit
open St (InR)
/-- A row handed as a condition of reach: no part of the datum weighs more. -/
def WOk {H : Type} (t : TypeId) (d : DataW H) : Prop := ∀ n ∈ d.weights Tryz.prog t, n ≤ reachBytes
theorem spot_of_cell {w : World} {a : Addr} {v : Value} (h : w.cell? a = some v) : a.spot = none ∧ a.block < w.heap.size := by
  unfold World.cell? at h
  split at h
  · rename_i c t f hb
    split at h
    · cases h
    · rename_i hs
      refine ⟨by simpa using hs, ?_⟩
      rcases Nat.lt_or_ge a.block w.heap.size with h1 | h1
      · exact h1
      · rw [Array.getElem?_eq_none h1] at hb; cases hb
  · cases h
theorem add_plain (g o n : Nat) : (⟨g, o, none⟩ : Addr).add n = ⟨g, o + n, none⟩ := by
  unfold Addr.add
  split
  · rename_i h; subst h; rfl
  · rfl
theorem weights_all {H : Type} {e : TypeId} : ∀ (l : List (DataW H)), (∀ n ∈ DataW.weightsAll Tryz.prog e l, n ≤ reachBytes) → ∀ d ∈ l, WOk e d
  | [], _, d, h => by cases h
  | x :: l, hw, d, h => by
    rw [DataW.weightsAll] at hw
    rcases List.mem_cons.1 h with rfl | h
    · exact fun n hn => hw n (List.mem_append_left _ hn)
    · exact weights_all l (fun n hn => hw n (List.mem_append_right _ hn)) d h
section
variable {H : Type} {enc : TypeId × Value → H} {w : World} {base : Nat} {held : Bool} {spare : Nat → Bool}
theorem open_slice_gen {α : Type} {T e : TypeId} {k by_ : Nat} (hT : Tryz.prog.underlying T = some (.slice e)) (hk : Tryz.prog.cellsOf e = k) (hk0 : 0 < k) (hby : Tryz.prog.bytesOf e = by_) (h8 : 8 ≤ by_)
    (R : World → Nat → Nat → α → Prop) (Q : α → Prop) {fuel : Nat}
    (hel : ∀ (m : Nat) (cs : List Value) (y : DataW H × List MemPlace), m < fuel → DataW.trod enc Tryz.prog w base spare held m e cs = some y → cs.length = k → ∀ g o, (∀ j, j < k → w.cell? ⟨g, o + j, none⟩ = cs[j]?) → ∃ a : α, R w g o a ∧ (WOk e y.1 → Q a))
    {cs : List Value} {x : DataW H × List MemPlace} (h : DataW.trod enc Tryz.prog w base spare held fuel T cs = some x) :
    ∃ (A : Option Addr) (c : Nat) (l : List α), cs = [.slice A l.length c] ∧ RdT w (fun g => g < w.heap.size) A k R l ∧ (WOk T x.1 → l.length ≤ 17592186044416 ∧ ∀ a ∈ l, Q a) := by
  rcases DataW.trod_slice hT h with ⟨rfl, rfl⟩ | ⟨a, len, cap, elems, rest, n, rfl, rfl, rfl, hb, hl, hm, hlen, hx, _, _⟩
  · exact ⟨none, 0, [], rfl, RdT.nil_, fun _ => ⟨by simp, by simp⟩⟩
  · rw [hk] at hx
    rcases Nat.eq_zero_or_pos len with h0 | h0
    · subst h0
      exact ⟨some a, cap, [], rfl, RdT.nil_, fun _ => ⟨by simp, by simp⟩⟩
    · have hsp : ∃ g o, a = ⟨g, o, none⟩ ∧ g < w.heap.size := by
        have hx0 := hx 0 h0
        rw [List.getElem?_eq_getElem (by omega)] at hx0
        obtain ⟨cs', hc, ht⟩ := Option.bind_eq_some_iff.1 hx0
        obtain ⟨_, hcl, hat⟩ := World.cells?_some hc
        have z0 := hat 0 hk0
        rw [List.getElem?_eq_getElem (by omega), Nat.zero_mul] at z0
        have hz : (a.add 0).add 0 = a := by unfold Addr.add; simp
        rw [hz] at z0
        obtain ⟨h1, h2⟩ := spot_of_cell z0
        obtain ⟨g, o, sp⟩ := a
        dsimp only at h1 h2
        subst h1
        exact ⟨g, o, rfl, h2⟩
      obtain ⟨g, o, rfl, hg⟩ := hsp
      have hE : ∀ i, i < len → ∃ b : α, R w g (o + i * k) b ∧ ∀ (hi : i < elems.length), WOk e elems[i].1 → Q b := by
        intro i hi
        have hxi := hx i hi
        have hie : i < elems.length := by omega
        rw [List.getElem?_eq_getElem hie] at hxi
        obtain ⟨cs', hc, ht⟩ := Option.bind_eq_some_iff.1 hxi
        obtain ⟨_, hcl, hat⟩ := World.cells?_some hc
        rw [add_plain] at hat
        obtain ⟨b, hb1, hb2⟩ := hel n cs' elems[i] (by omega) ht hcl g (o + i * k) (fun j hj => by have := hat j hj; rwa [add_plain] at this)
        exact ⟨b, hb1, fun _ => hb2⟩
      haveI : Inhabited α := ⟨(hE 0 h0).choose⟩
      obtain ⟨V, hV⟩ := choose_lt hE
      have hll : ((List.range len).map V).length = len := by simp
      refine ⟨some ⟨g, o, none⟩, cap, (List.range len).map V, by rw [hll], fun _ => ⟨g, o, rfl, hg, hg, fun i hi => ?_⟩, fun hW => ⟨?_, ?_⟩⟩
      · have hi' : i < len := by simpa using hi
        have := (hV i hi').1
        simpa using this
      · rw [hll]
        have := hW ((elems.map (·.1)).length * by_ + (rest.map (·.1)).length * by_) (by
          rw [← Nat.add_mul]
          unfold DataW.weights
          rw [hT]
          simp only [hby]
          exact List.mem_cons_self ..)
        rw [List.length_map, hlen] at this
        have h1 : len * 8 ≤ len * by_ := Nat.mul_le_mul_left _ h8
        unfold reachBytes at this
        omega
      · intro b hb
        obtain ⟨i, hi, rfl⟩ := List.mem_map.1 hb
        have hi' : i < len := List.mem_range.1 hi
        have hie : i < elems.length := by omega
        refine (hV i hi').2 hie (weights_all (elems.map (·.1)) (fun n hn => hW n ?_) _ (List.mem_map.2 ⟨elems[i], List.getElem_mem _, rfl⟩))
        unfold DataW.weights
        rw [hT]
        exact List.mem_cons_of_mem _ (List.mem_append_left _ hn)
theorem wf_in {z : Int} (h : (Lit.int .i64 z).wf = true) : InR z := by
  have := Go.Extern.FmtText.int_bounds h
  unfold InR
  simpa [IntKind.min, IntKind.max, IntKind.signed, IntKind.bits] using this
theorem wf_u64 {z : Int} (h : (Lit.int .u64 z).wf = true) : ((z.toNat : Nat) : Int) = z ∧ z.toNat < 18446744073709551616 := by
  have := Go.Extern.FmtText.int_bounds h
  have h' : 0 ≤ z ∧ z ≤ 18446744073709551615 := by simpa [IntKind.min, IntKind.max, IntKind.signed, IntKind.bits] using this
  omega
/-- A slice of integers. -/
theorem open_row {T e : TypeId} (hT : Tryz.prog.underlying T = some (.slice e)) (he : Tryz.prog.underlying e = some (.int .i64)) (hk : Tryz.prog.cellsOf e = 1) (hby : Tryz.prog.bytesOf e = 8) {n : Nat} {v : Value} {y : DataW H × List MemPlace}
    (h : DataW.trod enc Tryz.prog w base spare held n T [v] = some y) :
    ∃ (A : Option Addr) (c : Nat) (l : List Int), v = .slice A l.length c ∧ RdZ w (fun g => g < w.heap.size) A l ∧ (WOk T y.1 → l.length ≤ 17592186044416 ∧ ∀ z ∈ l, InR z) := by
  obtain ⟨A, c, l, hcs, hr, hq⟩ := open_slice_gen hT hk (by omega) hby (by omega) ZAt InR (fun m cs y hm ht hl g o hc => by
    obtain ⟨z, e0, _, wf⟩ := DataW.trod_int he ht
    have := hc 0 (by omega)
    subst e0
    exact ⟨z, this, fun _ => wf_in wf⟩) h
  exact ⟨A, c, l, by simpa using hcs, hr, hq⟩
set_option maxRecDepth 100000 in
theorem cells_edge : Tryz.prog.cellsOf 50 = 2 := by kernel_rfl
theorem cells_ins : Tryz.prog.cellsOf 48 = 7 := by kernel_rfl
theorem cells_blk : Tryz.prog.cellsOf 44 = 7 := by kernel_rfl
theorem cells_fin : Tryz.prog.cellsOf 42 = 5 := by kernel_rfl
theorem cells_ssa : Tryz.prog.cellsOf 27 = 4 := by kernel_rfl
theorem cells_func : Tryz.prog.cellsOf 24 = 2 := by kernel_rfl
theorem open_ints_ {n : Nat} {v : Value} {y : DataW H × List MemPlace} (h : DataW.trod enc Tryz.prog w base spare held n 37 [v] = some y) :
    ∃ (A : Option Addr) (c : Nat) (l : List Int), v = .slice A l.length c ∧ RdZ w (fun g => g < w.heap.size) A l ∧ (WOk 37 y.1 → l.length ≤ 17592186044416 ∧ ∀ z ∈ l, InR z) :=
  open_row Tryz.underlying37 Tryz.underlying3 (by kernel_rfl) (by kernel_rfl) h
theorem open_vals_ {n : Nat} {v : Value} {y : DataW H × List MemPlace} (h : DataW.trod enc Tryz.prog w base spare held n 22 [v] = some y) :
    ∃ (A : Option Addr) (c : Nat) (l : List Int), v = .slice A l.length c ∧ RdZ w (fun g => g < w.heap.size) A l ∧ (WOk 22 y.1 → l.length ≤ 17592186044416 ∧ ∀ z ∈ l, InR z) :=
  open_row Tryz.underlying22 Tryz.underlying51 (by kernel_rfl) (by kernel_rfl) h
def QE (e : St.Edge) : Prop := InR e.tgt ∧ e.args.length ≤ 17592186044416 ∧ ∀ z ∈ e.args, InR z
def QI (y : St.Ins) : Prop := (InR y.a ∧ InR y.b ∧ y.n < 18446744073709551616 ∧ (∀ z ∈ y.args, InR z) ∧ ∀ z ∈ y.outs, InR z) ∧ y.args.length ≤ 17592186044416 ∧ y.outs.length ≤ 17592186044416
def QB (b : St.Blk) : Prop := b.params.length ≤ 17592186044416 ∧ (∀ z ∈ b.params, InR z) ∧ b.ins.length ≤ 17592186044416 ∧ (∀ y ∈ b.ins, QI y) ∧ InR b.fin.cond ∧ InR b.fin.trap ∧ b.fin.args.length ≤ 17592186044416 ∧ (∀ z ∈ b.fin.args, InR z) ∧ b.fin.edges.length ≤ 17592186044416 ∧ ∀ e ∈ b.fin.edges, QE e
set_option maxRecDepth 100000 in
theorem open_edge {m : Nat} {cs : List Value} {y : DataW H × List MemPlace} (h : DataW.trod enc Tryz.prog w base spare held m 50 cs = some y) (g o : Nat) (hc : ∀ j, j < 2 → w.cell? ⟨g, o + j, none⟩ = cs[j]?) :
    ∃ e : St.Edge, EdgeAt (fun g => g < w.heap.size) w g o e ∧ (WOk 50 y.1 → QE e) := by
  obtain ⟨xs, n, rfl, rfl, hlen, hxl, hf⟩ := DataW.trod_struct Tryz.underlying50 h
  rw [cells_edge] at hlen
  match cs, hlen with
  | [v0, v1], _ =>
    have hxl2 : xs.length = 2 := hxl
    match xs, hxl2 with
    | [x0, x1], _ =>
      have t0 := hf 0 _ rfl
      have t1 := hf 1 _ rfl
      replace t0 : DataW.trod enc Tryz.prog w base spare held n 3 [v0] = some x0 := t0
      replace t1 : DataW.trod enc Tryz.prog w base spare held n 37 [v1] = some x1 := t1
      obtain ⟨z, e0, _, wf⟩ := DataW.trod_int Tryz.underlying3 t0
      obtain ⟨A, c, l, rfl, hr, hq⟩ := open_ints_ t1
      obtain rfl : v0 = .int .i64 z := by simpa using e0
      refine ⟨⟨z, l⟩, ⟨hc 0 (by omega), A, c, hc 1 (by omega), hr⟩, fun hW => ?_⟩
      obtain ⟨q1, q2⟩ := hq fun n hn => hW n (by
        unfold DataW.weights
        rw [Tryz.underlying50]
        show n ∈ DataW.weightsEach Tryz.prog [3, 37] [x0.1, x1.1]
        simp only [DataW.weightsEach, List.append_nil, List.mem_append]
        exact .inr hn)
      exact ⟨wf_in wf, q1, q2⟩
set_option maxRecDepth 100000 in
theorem open_ins {m : Nat} {cs : List Value} {y : DataW H × List MemPlace} (h : DataW.trod enc Tryz.prog w base spare held m 48 cs = some y) (g o : Nat) (hc : ∀ j, j < 7 → w.cell? ⟨g, o + j, none⟩ = cs[j]?) :
    ∃ e : St.Ins, InsAt (fun g => g < w.heap.size) w g o e ∧ (WOk 48 y.1 → QI e) := by
  obtain ⟨xs, n, rfl, rfl, hlen, hxl, hf⟩ := DataW.trod_struct Tryz.underlying48 h
  rw [cells_ins] at hlen
  match cs, hlen with
  | [v0, v1, v2, v3, v4, v5, v6], _ =>
    have hxl2 : xs.length = 7 := hxl
    match xs, hxl2 with
    | [x0, x1, x2, x3, x4, x5, x6], _ =>
      have t0 := hf 0 _ rfl
      have t1 := hf 1 _ rfl
      have t2 := hf 2 _ rfl
      have t3 := hf 3 _ rfl
      have t4 := hf 4 _ rfl
      have t5 := hf 5 _ rfl
      have t6 := hf 6 _ rfl
      replace t0 : DataW.trod enc Tryz.prog w base spare held n 3 [v0] = some x0 := t0
      replace t1 : DataW.trod enc Tryz.prog w base spare held n 45 [v1] = some x1 := t1
      replace t2 : DataW.trod enc Tryz.prog w base spare held n 3 [v2] = some x2 := t2
      replace t3 : DataW.trod enc Tryz.prog w base spare held n 3 [v3] = some x3 := t3
      replace t4 : DataW.trod enc Tryz.prog w base spare held n 46 [v4] = some x4 := t4
      replace t5 : DataW.trod enc Tryz.prog w base spare held n 37 [v5] = some x5 := t5
      replace t6 : DataW.trod enc Tryz.prog w base spare held n 37 [v6] = some x6 := t6
      obtain ⟨z0, e0, _, _⟩ := DataW.trod_int Tryz.underlying3 t0
      obtain ⟨z1, e1, _, _⟩ := DataW.trod_int Tryz.underlying45 t1
      obtain ⟨z2, e2, _, wf2⟩ := DataW.trod_int Tryz.underlying3 t2
      obtain ⟨z3, e3, _, wf3⟩ := DataW.trod_int Tryz.underlying3 t3
      obtain ⟨z4, e4, _, wf4⟩ := DataW.trod_int Tryz.underlying46 t4
      obtain ⟨A, c, l, rfl, hr, hq⟩ := open_ints_ t5
      obtain ⟨A', c', l', rfl, hr', hq'⟩ := open_ints_ t6
      obtain rfl : v0 = .int .i64 z0 := by simpa using e0
      obtain rfl : v1 = .int .i64 z1 := by simpa using e1
      obtain rfl : v2 = .int .i64 z2 := by simpa using e2
      obtain rfl : v3 = .int .i64 z3 := by simpa using e3
      obtain rfl : v4 = .int .u64 z4 := by simpa using e4
      obtain ⟨u1, u2⟩ := wf_u64 wf4
      refine ⟨⟨z0, z1, z2, z3, z4.toNat, l, l'⟩, ⟨hc 0 (by omega), hc 1 (by omega), hc 2 (by omega), hc 3 (by omega), by rw [u1]; exact hc 4 (by omega), ⟨A, c, hc 5 (by omega), hr⟩, A', c', hc 6 (by omega), hr'⟩, fun hW => ?_⟩
      have hWe : ∀ n ∈ DataW.weightsEach Tryz.prog [3, 45, 3, 3, 46, 37, 37] [x0.1, x1.1, x2.1, x3.1, x4.1, x5.1, x6.1], n ≤ reachBytes := fun n hn => hW n (by
        unfold DataW.weights
        rw [Tryz.underlying48]
        exact hn)
      simp only [DataW.weightsEach, List.append_nil, List.mem_append] at hWe
      obtain ⟨q1, q2⟩ := hq fun n hn => hWe n (.inr (.inr (.inr (.inr (.inr (.inl hn))))))
      obtain ⟨r1, r2⟩ := hq' fun n hn => hWe n (.inr (.inr (.inr (.inr (.inr (.inr hn))))))
      exact ⟨⟨wf_in wf2, wf_in wf3, u2, q2, r2⟩, q1, r1⟩
set_option maxRecDepth 100000 in
theorem open_blk {m : Nat} {cs : List Value} {y : DataW H × List MemPlace} (h : DataW.trod enc Tryz.prog w base spare held m 44 cs = some y) (g o : Nat) (hc : ∀ j, j < 7 → w.cell? ⟨g, o + j, none⟩ = cs[j]?) :
    ∃ e : St.Blk, BlkAt (fun g => g < w.heap.size) w g o e ∧ (WOk 44 y.1 → QB e) := by
  obtain ⟨xs, n, rfl, rfl, hlen, hxl, hf⟩ := DataW.trod_struct Tryz.underlying44 h
  rw [cells_blk] at hlen
  match cs, hlen with
  | [v0, v1, v2, v3, v4, v5, v6], _ =>
    have hxl2 : xs.length = 3 := hxl
    match xs, hxl2 with
    | [x0, x1, x2], _ =>
      have t0 := hf 0 _ rfl
      have t1 := hf 1 _ rfl
      have t2 := hf 2 _ rfl
      replace t0 : DataW.trod enc Tryz.prog w base spare held n 37 [v0] = some x0 := t0
      replace t1 : DataW.trod enc Tryz.prog w base spare held n 38 [v1] = some x1 := t1
      replace t2 : DataW.trod enc Tryz.prog w base spare held n 42 [v2, v3, v4, v5, v6] = some x2 := t2
      obtain ⟨A0, c0, params, rfl, hr0, hq0⟩ := open_ints_ t0
      obtain ⟨A1, c1, ins, e1, hr1, hq1⟩ := open_slice_gen Tryz.underlying38 cells_ins (by omega) (by_ := 88) (by kernel_rfl) (by omega) (InsAt (fun g => g < w.heap.size)) QI (fun m cs y hm ht hl g o hc => open_ins ht g o hc) t1
      obtain ⟨xs', n', rfl, rfl, hlen', hxl', hf'⟩ := DataW.trod_struct Tryz.underlying42 t2
      have hxl3 : xs'.length = 5 := hxl'
      match xs', hxl3 with
      | [y0, y1, y2, y3, y4], _ =>
        have s0 := hf' 0 _ rfl
        have s1 := hf' 1 _ rfl
        have s2 := hf' 2 _ rfl
        have s3 := hf' 3 _ rfl
        have s4 := hf' 4 _ rfl
        replace s0 : DataW.trod enc Tryz.prog w base spare held n' 3 [v2] = some y0 := s0
        replace s1 : DataW.trod enc Tryz.prog w base spare held n' 3 [v3] = some y1 := s1
        replace s2 : DataW.trod enc Tryz.prog w base spare held n' 37 [v4] = some y2 := s2
        replace s3 : DataW.trod enc Tryz.prog w base spare held n' 39 [v5] = some y3 := s3
        replace s4 : DataW.trod enc Tryz.prog w base spare held n' 40 [v6] = some y4 := s4
        obtain ⟨z0, e2, _, _⟩ := DataW.trod_int Tryz.underlying3 s0
        obtain ⟨z1, e3, _, wf1⟩ := DataW.trod_int Tryz.underlying3 s1
        obtain ⟨A2, c2, args, rfl, hr2, hq2⟩ := open_ints_ s2
        obtain ⟨A3, c3, edges, e4, hr3, hq3⟩ := open_slice_gen Tryz.underlying39 cells_edge (by omega) (by_ := 32) (by kernel_rfl) (by omega) (EdgeAt (fun g => g < w.heap.size)) QE (fun m cs y hm ht hl g o hc => open_edge ht g o hc) s3
        obtain ⟨z4, e5, _, wf4⟩ := DataW.trod_int Tryz.underlying40 s4
        obtain rfl : v1 = .slice A1 ins.length c1 := by simpa using e1
        obtain rfl : v2 = .int .i64 z0 := by simpa using e2
        obtain rfl : v3 = .int .i64 z1 := by simpa using e3
        obtain rfl : v5 = .slice A3 edges.length c3 := by simpa using e4
        obtain rfl : v6 = .int .i64 z4 := by simpa using e5
        refine ⟨⟨params, ins, ⟨z0, z1, args, edges, z4⟩⟩, ⟨⟨A0, c0, hc 0 (by omega), hr0⟩, ⟨A1, c1, hc 1 (by omega), hr1⟩, hc 2 (by omega), hc 3 (by omega), ⟨A2, c2, hc 4 (by omega), hr2⟩, ⟨A3, c3, hc 5 (by omega), hr3⟩, hc 6 (by omega)⟩, fun hW => ?_⟩
        have hWe : ∀ n ∈ DataW.weightsEach Tryz.prog [37, 38, 42] [x0.1, x1.1, .agg [y0.1, y1.1, y2.1, y3.1, y4.1]], n ≤ reachBytes := fun n hn => hW n (by
          unfold DataW.weights
          rw [Tryz.underlying44]
          exact hn)
        simp only [DataW.weightsEach, List.append_nil, List.mem_append] at hWe
        have hWf : ∀ n ∈ DataW.weightsEach Tryz.prog [3, 3, 37, 39, 40] [y0.1, y1.1, y2.1, y3.1, y4.1], n ≤ reachBytes := fun n hn => hWe n (.inr (.inr (by
          unfold DataW.weights
          rw [Tryz.underlying42]
          exact hn)))
        simp only [DataW.weightsEach, List.append_nil, List.mem_append] at hWf
        obtain ⟨q1, q2⟩ := hq0 fun n hn => hWe n (.inl hn)
        obtain ⟨r1, r2⟩ := hq1 fun n hn => hWe n (.inr (.inl hn))
        obtain ⟨p1, p2⟩ := hq2 fun n hn => hWf n (.inr (.inr (.inl hn)))
        obtain ⟨o1, o2⟩ := hq3 fun n hn => hWf n (.inr (.inr (.inr (.inl hn))))
        exact ⟨q1, q2, r1, r2, wf_in wf1, wf_in wf4, p1, p2, o1, o2⟩
end
set_option maxRecDepth 100000 in
/-- The parameter. -/
theorem open_ssa {H : Type} {enc : TypeId × Value → H} {w : World} {base : Nat} {held : Bool} {r : Reach} {b0 : Nat} {v : Value} {d : DataW H} {p : List MemPlace}
    (hv : Value.okWide Tryz.prog w r b0 27 v) (h : DataW.Trod enc Tryz.prog w base (fun _ => true) held 27 v d p) (hW : WOk 27 d) :
    ∃ (x : St.Ssa) (P R V B : Option Addr) (c1 c2 c3 c4 : Nat), v = ssaV x P c1 R c2 V c3 B c4 ∧ SsaAt (fun g => g < w.heap.size) w x P R V B ∧ St.Big x ∧ St.Num x := by
  obtain ⟨cs, rfl, hsz⟩ := okWide_struct Tryz.underlying27 hv
  rw [cells_ssa] at hsz
  obtain ⟨fuel, hf⟩ := h
  obtain ⟨L⟩ := cs
  replace hf : DataW.trod enc Tryz.prog w base (fun _ => true) held fuel 27 L = some (d, p) := hf
  obtain ⟨xs, n, rfl, hdp, hlen, hxl, hf⟩ := DataW.trod_struct Tryz.underlying27 hf
  have hL4 : L.length = 4 := hsz
  match L, hL4 with
  | [v0, v1, v2, v3], _ =>
    have hxl3 : xs.length = 3 := hxl
    match xs, hxl3 with
    | [x0, x1, x2], _ =>
      have t0 := hf 0 _ rfl
      have t1 := hf 1 _ rfl
      have t2 := hf 2 _ rfl
      replace t0 : DataW.trod enc Tryz.prog w base (fun _ => true) held n 24 [v0, v1] = some x0 := t0
      replace t1 : DataW.trod enc Tryz.prog w base (fun _ => true) held n 22 [v2] = some x1 := t1
      replace t2 : DataW.trod enc Tryz.prog w base (fun _ => true) held n 25 [v3] = some x2 := t2
      obtain ⟨A2, c2, vals, rfl, hr2, hq2⟩ := open_vals_ t1
      obtain ⟨A3, c3, blocks, e3, hr3, hq3⟩ := open_slice_gen Tryz.underlying25 cells_blk (by omega) (by_ := 120) (by kernel_rfl) (by omega) (BlkAt (fun g => g < w.heap.size)) QB (fun m cs y hm ht hl g o hc => open_blk ht g o hc) t2
      obtain rfl : v3 = .slice A3 blocks.length c3 := by simpa using e3
      obtain ⟨xs', n', rfl, rfl, hlen', hxl', hf'⟩ := DataW.trod_struct Tryz.underlying24 t0
      have hxl4 : xs'.length = 2 := hxl'
      match xs', hxl4 with
      | [y0, y1], _ =>
        have s0 := hf' 0 _ rfl
        have s1 := hf' 1 _ rfl
        replace s0 : DataW.trod enc Tryz.prog w base (fun _ => true) held n' 22 [v0] = some y0 := s0
        replace s1 : DataW.trod enc Tryz.prog w base (fun _ => true) held n' 22 [v1] = some y1 := s1
        obtain ⟨A0, c0, ps, rfl, hr0, hq0⟩ := open_vals_ s0
        obtain ⟨A1, c1, rs, rfl, hr1, hq1⟩ := open_vals_ s1
        have hd : d = .agg [.agg [y0.1, y1.1], x1.1, x2.1] := (congrArg Prod.fst hdp)
        subst hd
        have hWe : ∀ n ∈ DataW.weightsEach Tryz.prog [24, 22, 25] [.agg [y0.1, y1.1], x1.1, x2.1], n ≤ reachBytes := fun n hn => hW n (by
          unfold DataW.weights
          rw [Tryz.underlying27]
          exact hn)
        simp only [DataW.weightsEach, List.append_nil, List.mem_append] at hWe
        have hWf : ∀ n ∈ DataW.weightsEach Tryz.prog [22, 22] [y0.1, y1.1], n ≤ reachBytes := fun n hn => hWe n (.inl (by
          unfold DataW.weights
          rw [Tryz.underlying24]
          exact hn))
        simp only [DataW.weightsEach, List.append_nil, List.mem_append] at hWf
        obtain ⟨q1, _⟩ := hq0 fun n hn => hWf n (.inl hn)
        obtain ⟨r1, _⟩ := hq1 fun n hn => hWf n (.inr hn)
        obtain ⟨p1, _⟩ := hq2 fun n hn => hWe n (.inr (.inl hn))
        obtain ⟨o1, o2⟩ := hq3 fun n hn => hWe n (.inr (.inr hn))
        refine ⟨⟨ps, rs, vals, blocks⟩, A0, A1, A2, A3, c0, c1, c2, c3, rfl, ⟨hr0, hr1, hr2, hr3⟩, ⟨q1, r1, p1, o1, fun b hb => ?_⟩, ⟨fun b hb y hy => ?_, fun b hb => ?_, fun b hb => ?_⟩⟩
        · obtain ⟨a1, a2, a3, a4, a5, a6, a7, a8, a9, a10⟩ := o2 b hb
          exact ⟨a1, a3, a7, a9, fun y hy => (a4 y hy).2, fun e he => (a10 e he).2.1⟩
        · obtain ⟨a1, a2, a3, a4, a5, a6, a7, a8, a9, a10⟩ := o2 b hb
          exact (a4 y hy).1
        · obtain ⟨a1, a2, a3, a4, a5, a6, a7, a8, a9, a10⟩ := o2 b hb
          exact ⟨a5, a6, a8, fun e he => ⟨(a10 e he).1, (a10 e he).2.2⟩⟩
        · exact (o2 b hb).2.1
end Go.Proofs.YtmhmpobjjhbklaaGreatDoor
set_option linter.unusedVariables false
set_option linter.unusedSimpArgs false
namespace Go.Proofs.YtmhmpobjjhbklaaGreatDoor
open Go.ChangeShapes Go.WideShapes Go.ChangeAt Go.RowKit Go.Joins Go.Deep
def laid9 : List (String × DataW Unit) := [("math/bits.deBruijn32tab", Rows.laid_math_bits_deBruijn32tab), ("math/bits.deBruijn64tab", Rows.laid_math_bits_deBruijn64tab), ("internal/strconv.uint64pow10", Rows.laid_internal_strconv_uint64pow10), ("unicode/utf8.acceptRanges", Rows.laid_unicode_utf8_acceptRanges), ("strconv.ErrRange", Rows.laid_strconv_ErrRange), ("strconv.ErrSyntax", Rows.laid_strconv_ErrSyntax), ("unicode.White_Space", Rows.laid_unicode_White_Space), ("strings.asciiSpace", Rows.laid_strings_asciiSpace), ("unicode/utf8.first", Rows.laid_unicode_utf8_first)]
set_option maxRecDepth 100000 in
theorem laid_pow : (Rows.laid_internal_strconv_uint64pow10 : DataW Unit) = Lib.tabData .u64 Lib.pow10Tab := by kernel_rfl
set_option maxRecDepth 100000 in
theorem laid_spc : (Rows.laid_strings_asciiSpace : DataW Unit) = Lib.tabData .u8 Lib.asciiSpaceTab := by kernel_rfl
set_option maxRecDepth 100000 in
theorem laid_wht : (Rows.laid_unicode_White_Space : DataW Unit) = Lib.whiteData := by kernel_rfl
set_option maxRecDepth 100000 in
theorem white_extra : WhiteExtra Tryz.prog Tryz.lays199_ren := ⟨by kernel_rfl, by kernel_rfl, by kernel_rfl, by kernel_rfl, by kernel_rfl, by kernel_rfl, by kernel_rfl, by kernel_rfl⟩
set_option maxRecDepth 100000 in
theorem wht_of {W : World} (hL : laidMet Tryz.prog laid9 W) : Lib.WhiteTab 1 W := by
  have h := whiteTab_of_reads Tryz.lays199 white_extra (w := W) (by
    rw [← laid_wht]
    exact Lib.laidMet.reads hL (by unfold laid9; simp))
  exact h
theorem star_errorString : "*" ++ "errors.errorString" = "*errors.errorString" := by decide
theorem row_errorString (u : TypeId) (h : Tryz.prog.typeName? 3 u = some "*errors.errorString") : u = 218 :=
  typeName_ptr_named (nm := "errors.errorString") (by rw [star_errorString]; kernel_rfl) (by kernel_rfl) (by decide) u (by rw [star_errorString]; exact h)
set_option maxRecDepth 100000 in
theorem glob_of_laid {W : World} (h : laidMetH Tryz.prog laid9 W) (hS : W.ShapedOpen Tryz.prog) : Glob W := by
  rw [MakeChecks.laidMetH_plain _ _ _ (by kernel_rfl)] at h
  obtain ⟨g2, e2, f2⟩ : ∃ g, Tryz.prog.globalNamed "internal/strconv.uint64pow10" = some g ∧ (Tryz.prog.globals[g]?).map (·.type) = some 182 := ⟨_, rfl, by kernel_rfl⟩
  obtain ⟨g7, e7, f7⟩ : ∃ g, Tryz.prog.globalNamed "strings.asciiSpace" = some g ∧ (Tryz.prog.globals[g]?).map (·.type) = some 127 := ⟨_, rfl, by kernel_rfl⟩
  have hw := wht_of h
  have h2 := h.tail.tail
  have h7 := h2.tail.tail.tail.tail.tail
  rw [laid_pow] at h2
  rw [laid_spc] at h7
  have hL := h.tail.tail.tail.tail
  obtain ⟨g3, e3, f3⟩ : ∃ g, Tryz.prog.globalNamed "strconv.ErrRange" = some g ∧ (Tryz.prog.globals[g]?).map (·.type) = some 97 := ⟨_, rfl, by kernel_rfl⟩
  obtain ⟨g4, e4, f4⟩ : ∃ g, Tryz.prog.globalNamed "strconv.ErrSyntax" = some g ∧ (Tryz.prog.globals[g]?).map (·.type) = some 97 := ⟨_, rfl, by kernel_rfl⟩
  obtain ⟨a0, s0, hv0, -, -, -⟩ := laid_sentinel hL e3 f3 Tryz.underlying97 row_errorString Tryz.underlying218 Tryz.underlying220 rfl rfl Tryz.underlying9 (by kernel_rfl) (by kernel_rfl)
  obtain ⟨a1, s1, hv1, -, -, -⟩ := laid_sentinel hL.tail e4 f4 Tryz.underlying97 row_errorString Tryz.underlying218 Tryz.underlying220 rfl rfl Tryz.underlying9 (by kernel_rfl) (by kernel_rfl)
  exact ⟨Lib.tabIs_of_head e2 f2 Tryz.underlying182 Tryz.underlying46 (by kernel_rfl) (by kernel_rfl) h2, ⟨_, _, hv1⟩, ⟨_, _, hv0⟩, Lib.tabIs_of_head e7 f7 Tryz.underlying127 Tryz.underlying5 (by kernel_rfl) (by kernel_rfl) h7, hw, Tryz.laysM219.s1_3 W hS⟩
set_option maxRecDepth 100000 in
theorem laid9_met (os : Os) (args : Array Value) : laidMetH Tryz.prog laid9 ((World.laidAll Tryz.prog os laid9).forCall (fun _ _ => 0) ⟨#[], args, []⟩).memory := by
  rw [MakeChecks.laidMetH_plain _ _ _ (by kernel_rfl)]
  exact laidMet_laidAll _ (by kernel_rfl) (by kernel_rfl)
set_option maxRecDepth 100000 in
theorem laid9_shaped (os : Os) (args : Array Value) : ((World.laidAll Tryz.prog os laid9).forCall (fun _ _ => 0) ⟨#[], args, []⟩).Shaped Tryz.prog :=
  World.shaped_of_ZipB (by kernel_rfl) (by kernel_rfl)
end Go.Proofs.YtmhmpobjjhbklaaGreatDoor
