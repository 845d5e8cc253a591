/-
  The reference's opcodes: find, Known, Name, Find.
-/
import Derived.Test.YtmhmpobjjhbklaaGreatDoorOpRef
import Derived.Test.YtmhmpobjjhbklaaGreatDoorVar
set_option linter.unusedVariables false
set_option linter.unusedSimpArgs false
namespace Go.Proofs.YtmhmpobjjhbklaaGreatDoor
namespace Opc
def rfind (op : Int) : List R → Option R
  | [] => none
  | r :: l => if r.1 = op then some r else rfind op l
theorem rfind_look (op : Int) (l : List R) : look op (l.map fun r => (r.1, r.2.1)) = (rfind op l).map (·.2.1) := by
  induction l with
  | nil => rfl
  | cons r l ih => rw [List.map_cons, look, rfind]; split <;> simp [ih]
theorem look_all (op : Int) : look op all = (rfind op refRows).map (·.2.1) := by rw [all_ref, rfind_look]
def rseek (s : List UInt8) : List R → Option Int
  | [] => none
  | r :: l => if r.2.1 = s then some r.1 else rseek s l
theorem rseek_seek (s : List UInt8) (l : List R) : seek s (l.map fun r => (r.1, r.2.1)) = rseek s l := by
  induction l with
  | nil => rfl
  | cons r l ih => rw [List.map_cons, seek, rseek, ih]
theorem seek_all (s : List UInt8) : seek s all = rseek s refRows := by rw [all_ref, rseek_seek]
theorem ref_len : refRows.length = 125 := by decide +kernel
end Opc
open Go.RowKit

def rowv (r : Opc.R) : Value := .agg (enc5 r).toArray
def found5 (o : Option Opc.R) : Value := match o with | some r => .tuple #[rowv r, .bool true] | none => .tuple #[.agg #[.int .i64 0, .string ⟨#[]⟩, .int .i64 0], .bool false]

set_option maxHeartbeats 8000000 in
set_option maxRecDepth 100000 in
theorem rfind_any (op : Int) (w : World) : Calls Tryz.prog 76 #[.int .i64 op] w fun e w' => e = .returned (found5 (Opc.rfind op Opc.refRows)) ∧ Below w.heap.size w w' := by
  have hlen := Opc.ref_len
  have hrr := fun W => rrows_any W
  obtain ⟨l, hl⟩ : ∃ l, Opc.refRows = l := ⟨_, rfl⟩
  rw [hl] at hlen ⊢
  simp only [hl] at hrr
  have HRR := Lib.hid hrr
  clear hl hrr
  go_enter Tryz.func76, Tryz.ntmps76
  go_upto_region 3 with (first
    | (go_at_call 108; refine (HRR.out _).mono ?_; rintro e w1 ⟨⟨A, c, rfl, hrd⟩, hb⟩; have hv := (Var.new w #[.int .i64 0, .string ByteArray.empty, .int .i64 0] 114).below hb (by simp); have hB := below_one hb; clear hb))
  refine at_code (F := fun W => RdS W W.heap.size A 3 enc5 l ∧ Var W w.heap.size #[.int .i64 0, .string ByteArray.empty, .int .i64 0] 114 ∧ Below w.heap.size w W) ⟨hrd, hv, hB⟩ ?_
  clear hrd hv hB
  rintro w0 ⟨k1, hv, hB⟩
  have HV := Lib.hid hv
  have HB := Lib.hid hB
  clear hv hB
  go_wp2
  go_loopw [5] (fun iv wr => ∃ (i : Nat), iv = .int .i64 (i : Int) ∧ i ≤ l.length ∧ wr = w0 ∧ Hid (Opc.rfind op (l.drop i) = Opc.rfind op l)) (fun iv _ => l.length - (intOf iv).toNat)
  case atStart => exact ⟨0, rfl, by omega, rfl, by simp [Hid]⟩
  case round =>
    obtain ⟨i, rfl, hi, rfl, HR⟩ := hrel
    by_cases hia : i < l.length
    · obtain ⟨ga, oa, rfl, hb1, e1⟩ := k1.get hia
      have hd : Opc.rfind op (l.drop i) = if l[i].1 = op then some l[i] else Opc.rfind op (l.drop (i + 1)) := by rw [List.drop_eq_getElem_cons hia, Opc.rfind]
      obtain ⟨⟨a, b, c3⟩, hv'⟩ : ∃ v, l[i] = v := ⟨_, rfl⟩
      rw [hv'] at e1 hd
      have f0 := e1 0 _ rfl
      have f1 := e1 1 _ rfl
      have f2 := e1 2 _ rfl
      dsimp only at f0 f1 f2 hd
      rw [Nat.add_zero] at f0
      have x0 : (i : Int) < 125 := by omega
      have x2 : (0 : Int) ≤ (i : Int) := by omega
      have x3 : i < 125 := by omega
      have K1 := Lib.hid k1
      rcases ho : (a == op) with _ | _
      · have HS : Hid (Opc.rfind op (l.drop (i + 1)) = Opc.rfind op l) := Lib.hid (by rw [← HR.out, hd, if_neg (by simpa using ho)])
        clear k1 e1 hv' hd
        go_wp2
        go_round
        case rel => exact ⟨i + 1, by go_num, by omega, by trivial, HS⟩
        case measure => simp [intOf]; omega
      · have HS : Hid (Opc.rfind op l = some (a, b, c3)) := Lib.hid (by rw [← HR.out, hd, if_pos (by simpa using ho)])
        clear k1 e1 hv' hd
        have y0 := HV.out.cells 0
        have z0 := HV.out.froz 0
        have z1 := HV.out.froz 1
        have z2 := HV.out.froz 2
        have y1 := HV.out.cells 1
        have y2 := HV.out.cells 2
        go_wp2
        refine bodyPost_ret (results_cell_row_tmp rfl _ _ w.heap.size _ _ (0, 0) _ rfl (((HV.out.set 0 _).set 1 _).set 2 _) Tryz.underlying114 rfl (by kernel_rfl)) rfl ?_
        exact ⟨by rw [HS.out]; rfl, below_set3 HB.out (Nat.le_refl _) _ _ _⟩
    · have hi2 : i = l.length := by omega
      have HS : Hid (Opc.rfind op l = none) := Lib.hid (by rw [← HR.out, hi2, List.drop_length]; rfl)
      have x0 : ¬ (i : Int) < 125 := by omega
      have x3 : ¬ i < 125 := by omega
      clear k1
      have y0 := HV.out.cells 0
      have z0 := HV.out.froz 0
      have z1 := HV.out.froz 1
      have z2 := HV.out.froz 2
      have y1 := HV.out.cells 1
      have y2 := HV.out.cells 2
      go_wp2
      refine bodyPost_ret (results_cell_row_tmp rfl _ _ w.heap.size _ _ (0, 0) _ rfl (((HV.out.set 0 _).set 1 _).set 2 _) Tryz.underlying114 rfl (by kernel_rfl)) rfl ?_
      exact ⟨by rw [HS.out]; rfl, below_set3 HB.out (Nat.le_refl _) _ _ _⟩

set_option maxHeartbeats 8000000 in
theorem rname5_any (op : Int) (w : World) : Calls Tryz.prog 61 #[.int .i64 op] w fun e w' => e = .returned (.string ⟨(Opc.name op).toArray⟩) ∧ Below w.heap.size w w' := by
  unfold Opc.name
  rw [Opc.look_all]
  have hf := fun W => rfind_any op W
  rcases hr : Opc.rfind op Opc.refRows with _ | ⟨a, b, c3⟩
  · rw [hr] at hf
    unfold found5 at hf
    have HF := Lib.hid hf
    clear hf
    go_enter Tryz.func61, Tryz.ntmps61
    go_wp2_with (go_at_call 76; refine (HF.out _).mono ?_; rintro e w1 ⟨rfl, hb⟩)
    go_ret
    exact ⟨rfl, hb.trans (((Below.refl _ _).alloc (Nat.le_refl _) _).mono hb.size)⟩
  · rw [hr] at hf
    unfold found5 rowv enc5 at hf
    dsimp only at hf
    have HF := Lib.hid hf
    clear hf
    go_enter Tryz.func61, Tryz.ntmps61
    go_wp2_with (go_at_call 76; refine (HF.out _).mono ?_; rintro e w1 ⟨rfl, hb⟩)
    go_ret
    exact ⟨rfl, hb.trans (((Below.refl _ _).alloc (Nat.le_refl _) _).mono hb.size)⟩
def found (o : Option Int) : Value := match o with | some op => .tuple #[.int .i64 op, .bool true] | none => .tuple #[.int .i64 0, .bool false]
set_option maxHeartbeats 8000000 in
set_option maxRecDepth 100000 in
theorem rfind5_any (s : List UInt8) (w : World) : Calls Tryz.prog 104 #[.string ⟨s.toArray⟩] w fun e w' => e = .returned (found (Opc.seek s Opc.all)) ∧ Below w.heap.size w w' := by
  rw [Opc.seek_all]
  have hlen := Opc.ref_len
  have hrr := fun W => rrows_any W
  obtain ⟨l, hl⟩ : ∃ l, Opc.refRows = l := ⟨_, rfl⟩
  rw [hl] at hlen ⊢
  simp only [hl] at hrr
  have HRR := Lib.hid hrr
  clear hl hrr
  go_enter Tryz.func104, Tryz.ntmps104
  go_upto_region 3 with (first
    | (go_at_call 108; refine (HRR.out _).mono ?_; rintro e w1 ⟨⟨A, c, rfl, hrd⟩, hb⟩))
  refine at_code (F := fun W => RdS W W.heap.size A 3 enc5 l ∧ Below w.heap.size w W) ⟨hrd, hb⟩ ?_
  clear hrd hb
  rintro w0 ⟨k1, hB⟩
  have HB := Lib.hid hB
  clear hB
  go_wp2
  go_loopw [5] (fun iv wr => ∃ (i : Nat), iv = .int .i64 (i : Int) ∧ i ≤ l.length ∧ wr = w0 ∧ Hid (Opc.rseek s (l.drop i) = Opc.rseek s l)) (fun iv _ => l.length - (intOf iv).toNat)
  case atStart => exact ⟨0, rfl, by omega, rfl, by simp [Hid]⟩
  case round =>
    obtain ⟨i, rfl, hi, rfl, HR⟩ := hrel
    by_cases hia : i < l.length
    · obtain ⟨ga, oa, rfl, hb1, e1⟩ := k1.get hia
      have hd : Opc.rseek s (l.drop i) = if l[i].2.1 = s then some l[i].1 else Opc.rseek s (l.drop (i + 1)) := by rw [List.drop_eq_getElem_cons hia, Opc.rseek]
      obtain ⟨⟨a, b, c3⟩, hv'⟩ : ∃ v, l[i] = v := ⟨_, rfl⟩
      rw [hv'] at e1 hd
      have f0 := e1 0 _ rfl
      have f1 := e1 1 _ rfl
      dsimp only at f0 f1 hd
      rw [Nat.add_zero] at f0
      have x0 : (i : Int) < 125 := by omega
      have x2 : (0 : Int) ≤ (i : Int) := by omega
      have x3 : i < 125 := by omega
      have K1 := Lib.hid k1
      have hq := beq_bytes b s
      rcases ho : decide (b = s) with _ | _
      · have HS : Hid (Opc.rseek s (l.drop (i + 1)) = Opc.rseek s l) := Lib.hid (by rw [← HR.out, hd, if_neg (by simpa using ho)])
        rw [ho] at hq
        have hq2 : (b == s) = false := by simpa using ho
        clear k1 e1 hv' hd ho
        go_wp2
        go_round
        case rel => exact ⟨i + 1, by go_num, by omega, by trivial, HS⟩
        case measure => simp [intOf]; omega
      · have HS : Hid (Opc.rseek s l = some a) := Lib.hid (by rw [← HR.out, hd, if_pos (by simpa using ho)])
        rw [ho] at hq
        have hq2 : (b == s) = true := by simpa using ho
        clear k1 e1 hv' hd ho
        go_wp2
        go_ret2
        exact ⟨by rw [HS.out]; rfl, HB.out⟩
    · have hi2 : i = l.length := by omega
      have HS : Hid (Opc.rseek s l = none) := Lib.hid (by rw [← HR.out, hi2, List.drop_length]; rfl)
      have x0 : ¬ (i : Int) < 125 := by omega
      have x3 : ¬ i < 125 := by omega
      clear k1
      go_wp2
      go_ret2
      exact ⟨by rw [HS.out]; rfl, HB.out⟩
end Go.Proofs.YtmhmpobjjhbklaaGreatDoor
