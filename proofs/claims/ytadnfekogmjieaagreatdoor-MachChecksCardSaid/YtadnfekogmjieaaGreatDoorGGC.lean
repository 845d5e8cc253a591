/-
  A variable's block by its cells; results of cells; equality of texts.
  The reference's opcodes: find, Known, Name, Find.
  What layer 40 takes from Go's library: FormatUint, Itoa, ParseInt, ParseUint, Fields, Split, Cut, Join, at the worlds that the law's rows speak of.
-/
import Derived.Test.YtadnfekogmjieaaGreatDoorGGA
import Derived.Handy
import Derived.Laws.Rows
import Derived.Test.YtadnfekogmjieaaGreatDoorGGB
import Derived.Test.YtadnfekogmjieaaGreatDoorGShelf
import Derived.Lib.ItoaMem
import Derived.Deep.QuietTactic
import Derived.BigQuiet
import Derived.Lib.CutLaws
set_option linter.unusedVariables false
set_option linter.unusedSimpArgs false
namespace Go.Proofs.YtadnfekogmjieaaGreatDoor
open Go.RowKit

def Var (w : World) (K : Nat) (cs : Array Value) (t : TypeId) : Prop := w.heap[K]? = some (.cells cs t (0, 0))
section
variable {w w' : World} {K : Nat} {cs : Array Value} {t : TypeId}
theorem Var.cells (h : Var w K cs t) : ∀ o, w.cell? ⟨K, o, none⟩ = cs[o]? := fun o => cell_of_row _ _ _ _ _ _ h
theorem Var.froz (h : Var w K cs t) : ∀ o, w.frozen? ⟨K, o, none⟩ = false := fun o => frozen_of_row _ _ _ _ _ h
theorem Var.lt (h : Var w K cs t) : K < w.heap.size := (Array.getElem?_eq_some_iff.1 h).1
theorem Var.new (W : World) (cs : Array Value) (e : TypeId) : Var (W.alloc (.cells cs e)) W.heap.size cs e := heap_alloc_new W _
theorem Var.newE (W : World) (cs : Array Value) (e : TypeId) {K : Nat} (h : W.heap.size = K) : Var (W.alloc (.cells cs e)) K cs e := h ▸ Var.new W cs e
theorem Var.below {B : Nat} (h : Var w K cs t) (hb : Below B w w') (hK : K < B) : Var w' K cs t := (hb.block K hK).trans h
theorem Var.alloc (h : Var w K cs t) (o : Obj) : Var (w.alloc o) K cs t := (Below.heap_alloc _ _ _ h.lt).trans h
theorem Var.set (h : Var w K cs t) (o : Nat) (u : Value) : Var (w.setCell ⟨K, o, none⟩ u) K (cs.setIfInBounds o u) t := Go.heap_setCell_same w K o _ _ u h
theorem Var.other (h : Var w K cs t) {K' : Nat} (hne : K ≠ K') (o : Nat) (u : Value) : Var (w.setCell ⟨K', o, none⟩ u) K cs t := (Below.heap_setCell _ _ _ _ hne).trans h
end

theorem below_one {w w1 : World} {o : Obj} (h1 : Below (w.alloc o).heap.size (w.alloc o) w1) : Below w.heap.size w w1 :=
  ((Below.refl w.heap.size w).alloc (Nat.le_refl _) o).trans (h1.mono (by simp))
theorem below_set {B : Nat} {w w' : World} (h : Below B w w') {K : Nat} (hK : B ≤ K) (a b : Value) : Below B w ((w'.setCell ⟨K, 0, none⟩ a).setCell ⟨K, 1, none⟩ b) :=
  (h.setCell (p := ⟨K, 0, none⟩) hK a).setCell (p := ⟨K, 1, none⟩) hK b
theorem below_set3 {B : Nat} {w w' : World} (h : Below B w w') {K : Nat} (hK : B ≤ K) (a b c : Value) : Below B w (((w'.setCell ⟨K, 0, none⟩ a).setCell ⟨K, 1, none⟩ b).setCell ⟨K, 2, none⟩ c) :=
  ((h.setCell (p := ⟨K, 0, none⟩) hK a).setCell (p := ⟨K, 1, none⟩) hK b).setCell (p := ⟨K, 2, none⟩) hK c
theorem results_cell_row_tmp {P : Program} {fn : Func} {p u : Tmp} {ty : TypeId} (h : fn.results = #[.cell p ty, .tmp u]) (tmps : Array Value) (w : World) (g : Nat) (t : TypeId) (cs : Array Value) (fr : Nat × Nat) (d : TypeDesc)
    (hp : tmps.getD p undef = .pointer (some ⟨g, 0, none⟩)) (hg : w.heap[g]? = some (.cells cs t fr))
    (hu : P.underlying ty = some d) (hd : (match d with | .struct _ | .array _ _ => true | _ => false) = true) (hi : (P.info? ty).map (·.size) = some cs.size) :
    (results fn tmps).run P w = .ok (.tuple #[.agg cs, tmps.getD u undef]) w := by
  have hp' : tmps[p]?.getD undef = .pointer (some ⟨g, 0, none⟩) := by simpa using hp
  simp [results, h, hp', asAddr, run_loadVar_row w g t ty cs fr d hg hu hd hi]
theorem beq_bytes (a b : List UInt8) : (({ data := a.toArray } : ByteArray) == { data := b.toArray }) = decide (a = b) := by
  show (a.toArray == b.toArray) = _
  rw [Bool.eq_iff_iff]; simp
theorem beq_no {a b : List UInt8} (h : a ≠ b) : (({ data := a.toArray } : ByteArray) == { data := b.toArray }) = false := by rw [beq_bytes]; simpa using h
theorem bne_no {a b : List UInt8} (h : a ≠ b) : (({ data := a.toArray } : ByteArray) != { data := b.toArray }) = true := by
  show (!(({ data := a.toArray } : ByteArray) == { data := b.toArray })) = true
  rw [beq_no h]; rfl
end Go.Proofs.YtadnfekogmjieaaGreatDoor
set_option linter.unusedVariables false
set_option linter.unusedSimpArgs false
namespace Go.Proofs.YtadnfekogmjieaaGreatDoor
namespace Opc
def rfind (op : Int) : List R → Option R
  | [] => none
  | r :: l => if r.1 = op then some r else rfind op l
theorem rfind_look (op : Int) (l : List R) : look op (l.map fun r => (r.1, r.2.1)) = (rfind op l).map (·.2.1) := by
  induction l with
  | nil => rfl
  | cons r l ih => rw [List.map_cons, look, rfind]; split <;> simp [ih]
theorem look_all (op : Int) : look op all = (rfind op refRows).map (·.2.1) := by rw [all_ref, rfind_look]
theorem ref_len : refRows.length = 125 := by decide +kernel
end Opc
open Go.RowKit

def rowv (r : Opc.R) : Value := .agg (enc5 r).toArray
def found5 (o : Option Opc.R) : Value := match o with | some r => .tuple #[rowv r, .bool true] | none => .tuple #[.agg #[.int .i64 0, .string ⟨#[]⟩, .int .i64 0], .bool false]

set_option maxHeartbeats 8000000 in
set_option maxRecDepth 100000 in
theorem rfind_any (op : Int) (w : World) : Calls Tryz.prog 128 #[.int .i64 op] w fun e w' => e = .returned (found5 (Opc.rfind op Opc.refRows)) ∧ Below w.heap.size w w' := by
  have hlen := Opc.ref_len
  have hrr := fun W => rrows_any W
  obtain ⟨l, hl⟩ : ∃ l, Opc.refRows = l := ⟨_, rfl⟩
  rw [hl] at hlen ⊢
  simp only [hl] at hrr
  have HRR := Lib.hid hrr
  clear hl hrr
  go_enter Tryz.func128, Tryz.ntmps128
  go_upto_region 3 with (first
    | (go_at_call 140; refine (HRR.out _).mono ?_; rintro e w1 ⟨⟨A, c, rfl, hrd⟩, hb⟩; have hv := (Var.new w #[.int .i64 0, .string ByteArray.empty, .int .i64 0] 194).below hb (by simp); have hB := below_one hb; clear hb))
  refine at_code (F := fun W => RdS W W.heap.size A 3 enc5 l ∧ Var W w.heap.size #[.int .i64 0, .string ByteArray.empty, .int .i64 0] 194 ∧ Below w.heap.size w W) ⟨hrd, hv, hB⟩ ?_
  clear hrd hv hB
  rintro w0 ⟨k1, hv, hB⟩
  have HV := Lib.hid hv
  have HB := Lib.hid hB
  clear hv hB
  go_wp2
  go_loopw [5] (fun iv wr => ∃ (i : Nat), iv = .int .i64 (i : Int) ∧ i ≤ l.length ∧ wr = w0 ∧ Hid (Opc.rfind op (l.drop i) = Opc.rfind op l)) (fun iv _ => l.length - (intOf iv).toNat)
  case atStart => exact ⟨0, rfl, by omega, rfl, by simp [Hid]⟩
  case round =>
    obtain ⟨i, rfl, hi, rfl, HR⟩ := hrel
    by_cases hia : i < l.length
    · obtain ⟨ga, oa, rfl, hb1, e1⟩ := k1.get hia
      have hd : Opc.rfind op (l.drop i) = if l[i].1 = op then some l[i] else Opc.rfind op (l.drop (i + 1)) := by rw [List.drop_eq_getElem_cons hia, Opc.rfind]
      obtain ⟨⟨a, b, c3⟩, hv'⟩ : ∃ v, l[i] = v := ⟨_, rfl⟩
      rw [hv'] at e1 hd
      have f0 := e1 0 _ rfl
      have f1 := e1 1 _ rfl
      have f2 := e1 2 _ rfl
      dsimp only at f0 f1 f2 hd
      rw [Nat.add_zero] at f0
      have x0 : (i : Int) < 125 := by omega
      have x2 : (0 : Int) ≤ (i : Int) := by omega
      have x3 : i < 125 := by omega
      have K1 := Lib.hid k1
      rcases ho : (a == op) with _ | _
      · have HS : Hid (Opc.rfind op (l.drop (i + 1)) = Opc.rfind op l) := Lib.hid (by rw [← HR.out, hd, if_neg (by simpa using ho)])
        clear k1 e1 hv' hd
        go_wp2
        go_round
        case rel => exact ⟨i + 1, by go_num, by omega, by trivial, HS⟩
        case measure => simp [intOf]; omega
      · have HS : Hid (Opc.rfind op l = some (a, b, c3)) := Lib.hid (by rw [← HR.out, hd, if_pos (by simpa using ho)])
        clear k1 e1 hv' hd
        have y0 := HV.out.cells 0
        have z0 := HV.out.froz 0
        have z1 := HV.out.froz 1
        have z2 := HV.out.froz 2
        have y1 := HV.out.cells 1
        have y2 := HV.out.cells 2
        go_wp2
        refine bodyPost_ret (results_cell_row_tmp rfl _ _ w.heap.size _ _ (0, 0) _ rfl (((HV.out.set 0 _).set 1 _).set 2 _) Tryz.underlying194 rfl (by kernel_rfl)) rfl ?_
        exact ⟨by rw [HS.out]; rfl, below_set3 HB.out (Nat.le_refl _) _ _ _⟩
    · have hi2 : i = l.length := by omega
      have HS : Hid (Opc.rfind op l = none) := Lib.hid (by rw [← HR.out, hi2, List.drop_length]; rfl)
      have x0 : ¬ (i : Int) < 125 := by omega
      have x3 : ¬ i < 125 := by omega
      clear k1
      have y0 := HV.out.cells 0
      have z0 := HV.out.froz 0
      have z1 := HV.out.froz 1
      have z2 := HV.out.froz 2
      have y1 := HV.out.cells 1
      have y2 := HV.out.cells 2
      go_wp2
      refine bodyPost_ret (results_cell_row_tmp rfl _ _ w.heap.size _ _ (0, 0) _ rfl (((HV.out.set 0 _).set 1 _).set 2 _) Tryz.underlying194 rfl (by kernel_rfl)) rfl ?_
      exact ⟨by rw [HS.out]; rfl, below_set3 HB.out (Nat.le_refl _) _ _ _⟩

set_option maxHeartbeats 8000000 in
theorem rname5_any (op : Int) (w : World) : Calls Tryz.prog 80 #[.int .i64 op] w fun e w' => e = .returned (.string ⟨(Opc.name op).toArray⟩) ∧ Below w.heap.size w w' := by
  unfold Opc.name
  rw [Opc.look_all]
  have hf := fun W => rfind_any op W
  rcases hr : Opc.rfind op Opc.refRows with _ | ⟨a, b, c3⟩
  · rw [hr] at hf
    unfold found5 at hf
    have HF := Lib.hid hf
    clear hf
    go_enter Tryz.func80, Tryz.ntmps80
    go_wp2_with (go_at_call 128; refine (HF.out _).mono ?_; rintro e w1 ⟨rfl, hb⟩)
    go_ret
    exact ⟨rfl, hb.trans (((Below.refl _ _).alloc (Nat.le_refl _) _).mono hb.size)⟩
  · rw [hr] at hf
    unfold found5 rowv enc5 at hf
    dsimp only at hf
    have HF := Lib.hid hf
    clear hf
    go_enter Tryz.func80, Tryz.ntmps80
    go_wp2_with (go_at_call 128; refine (HF.out _).mono ?_; rintro e w1 ⟨rfl, hb⟩)
    go_ret
    exact ⟨rfl, hb.trans (((Below.refl _ _).alloc (Nat.le_refl _) _).mono hb.size)⟩
def found (o : Option Int) : Value := match o with | some op => .tuple #[.int .i64 op, .bool true] | none => .tuple #[.int .i64 0, .bool false]
end Go.Proofs.YtadnfekogmjieaaGreatDoor
set_option linter.unusedVariables false
set_option linter.unusedSimpArgs false
namespace Go.Proofs.YtadnfekogmjieaaGreatDoor
open Go.RowKit Go.Sort
attribute [local go_sem] ByteArray.extract_mk

def Tab (w : World) : Prop := Lib.TabIs Tryz.prog w "internal/strconv.uint64pow10" .u64 Lib.pow10Tab
theorem var_below {w w' : World} {n : String} {cs : Array Value} (h : w.var? Tryz.prog n = some cs) (hb : Below w.heap.size w w') : w'.var? Tryz.prog n = some cs := by
  unfold World.var? at *
  cases hg : Tryz.prog.globalNamed n with
  | none => rw [hg] at h; cases h
  | some g =>
    rw [hg] at h
    simp only [Option.bind_some] at h ⊢
    have hlt : g < w.heap.size := by
      by_cases hl : g < w.heap.size
      · exact hl
      · rw [Array.getElem?_eq_none (by omega)] at h; cases h
    rw [hb.block g hlt]
    exact h
structure Glob (w : World) : Prop where
  tab : Tab w
  syn : ∃ t p, w.var? Tryz.prog "strconv.ErrSyntax" = some #[.iface t p]
  ran : ∃ t p, w.var? Tryz.prog "strconv.ErrRange" = some #[.iface t p]
  spc : Lib.TabIs Tryz.prog w "strings.asciiSpace" .u8 Lib.asciiSpaceTab
  wht : Lib.WhiteTab 6 w
  mx : ∃ m, w.cell? ⟨3, 0, none⟩ = some (.int .i64 m)
theorem Glob.below {w w' : World} (h : Glob w) (hb : Below w.heap.size w w') : Glob w' := by
  obtain ⟨h1, ⟨t, p, h2⟩, ⟨t', p', h3⟩, h4, h5, m, h6⟩ := h
  exact ⟨var_below h1 hb, ⟨t, p, var_below h2 hb⟩, ⟨t', p', var_below h3 hb⟩, var_below h4 hb, WhiteTab_below h5 hb, m, (hb.cell (World.block_lt_of_cell? w _ h6)).trans h6⟩
theorem Glob.on {w w' : World} {B : Nat} (h : Glob w) (hb : Below B w w') (hB : w.heap.size ≤ B) : Glob w' := h.below (hb.mono hB)
theorem below_grow (W : World) (k : Nat) (os : Array Obj) : Below W.heap.size W (Go.Sort.grow (W.drewN k) os) :=
  ⟨rfl, rfl, rfl, by simp [Go.Sort.grow], fun b hb => by show (W.heap ++ os)[b]? = _; exact Array.getElem?_append_left hb⟩
theorem bytes_cat (a b : List UInt8) : ({ data := a.toArray } : ByteArray) ++ ({ data := b.toArray } : ByteArray) = ⟨(a ++ b).toArray⟩ := by
  apply ByteArray.ext
  rw [ByteArray.data_append]
  apply Array.ext'
  simp

theorem holds_zero0 (w : World) (T : TypeId) (nd : Nat) (hs : nd ≤ 24) : Holds (fun (b : UInt8) => Value.int .u8 (b.toNat : Int)) (w.alloc (.cells Lib.zeros24 T)) w.heap.size 0 (Array.replicate nd (0 : UInt8)) := fun j hj => by
  have hj' : j < nd := by simpa using hj
  refine ⟨?_, World.frozen?_alloc_new _ _ _ _⟩
  rw [World.cell?_alloc_new, Lib.zeros24_at _ (by omega), getElem!_pos _ j hj]
  simp
theorem fin0 (w : World) (o : Obj) (dk : Array UInt8) (k : Nat) : ∃ os, (putRow (fun (b : UInt8) => Value.int .u8 (b.toNat : Int)) (w.alloc o) w.heap.size 0 dk).drewN k = grow (w.drewN k) os := by
  rw [alloc_eq_grow]
  obtain ⟨os', _, e⟩ := putRow_grow_new (fun (b : UInt8) => Value.int .u8 (b.toNat : Int)) w #[o] w.heap.size 0 dk (Nat.le_refl _)
  exact ⟨os', by rw [e]; rfl⟩

set_option maxHeartbeats 6400000 in
set_option maxRecDepth 100000 in
theorem formatUint_in (u : Nat) (hu64 : u < 18446744073709551616) (w : World) (ht : Tab w) :
    Calls Tryz.prog 125 #[.int .u64 (u : Int), .int .i64 10] w fun e w' => e = .returned (.string ⟨(Lib.decDigits u).toArray⟩) ∧ Below w.heap.size w w' := by
  by_cases hs : u < 100
  · have g1 : decide ((u : Int) < 100) = true := by simp; omega
    go_enter Tryz.func125, Tryz.ntmps125
    go_wp2_with (go_at_call 166; refine (Tryz.internal_strconv_small u hs _).mono ?_; rintro e w' ⟨rfl, rfl⟩)
    go_ret
    exact ⟨rfl, Below.refl _ _⟩
  · have g1 : decide ((u : Int) < 100) = false := by simp; omega
    have hu1 : 1 ≤ u := by omega
    have hnd20 : Lib.nDigits u ≤ 20 := by have := Lib.numDigits_eq u hu1 hu64; split at this <;> omega
    have hb3 : Lib.nDigits u ≤ 24 := by omega
    have hal : Tryz.prog.arrayLen 229 = 24 := by simp [Program.arrayLen, Tryz.underlying229]
    have hsl1 : ∀ W, (Instr.sliceAt 229 (.pointer (some ⟨w.heap.size, 0, none⟩)) none (some (.int .i64 (Lib.nDigits u : Int))) none).run Tryz.prog W = .ok (.slice (some ⟨w.heap.size, 0, none⟩) (Lib.nDigits u) 24) W := fun W => by
      rw [run_sliceAt_array_h W 229 ⟨w.heap.size, 0, none⟩ (by simp [Program.arrayLen, Program.elem, Tryz.underlying229]) .i64 (Lib.nDigits u : Int) (by omega) (by rw [hal]; omega)]
      go_simp
      try omega
    have hH0 := holds_zero0 w 229 (Lib.nDigits u) (by omega)
    have hfmt := Tryz.internal_strconv_formatBase10 w.heap.size 0 24 u (Array.replicate (Lib.nDigits u) 0) (w.alloc (.cells Lib.zeros24 229)) hH0 (by rw [Array.size_replicate]; exact Lib.lt_pow_nDigits u) hu64 (by rw [Array.size_replicate]; omega)
    rw [Array.size_replicate] at hfmt
    have HH0 := Lib.hid hH0
    clear hH0 hal
    go_enter Tryz.func125, Tryz.ntmps125
    go_wp2_with (first
      | (go_at_call 167; refine (Tryz.internal_strconv_numDigits u hu1 hu64 _ (Lib.tabIs_alloc ht _)).mono ?_; rintro e w' ⟨rfl, rfl⟩))
    go_at_call 168
    refine hfmt.mono ?_
    rintro e w' ⟨rfl, k, v', dk, rfl, hF⟩
    have hcv : (convert 86 9 (.slice (some ⟨w.heap.size, 0, none⟩) (Lib.nDigits u) 24)).run Tryz.prog ((putRow (fun (b : UInt8) => Value.int .u8 (b.toNat : Int)) (w.alloc (.cells Lib.zeros24 229)) w.heap.size 0 dk).drewN k) = .ok (.string ⟨(Lib.decDigits u).toArray⟩) ((putRow (fun (b : UInt8) => Value.int .u8 (b.toNat : Int)) (w.alloc (.cells Lib.zeros24 229)) w.heap.size 0 dk).drewN k) := by
      have h := run_convert_bytes_back (P := Tryz.prog) ((putRow (fun (b : UInt8) => Value.int .u8 (b.toNat : Int)) (w.alloc (.cells Lib.zeros24 229)) w.heap.size 0 dk).drewN k) 86 9 5 ⟨w.heap.size, 0, none⟩ 24 (Lib.decDigits u) Tryz.underlying86 Tryz.underlying5 Tryz.underlying9 (fun j hj => by
        rw [Lib.row_is_numeral hF j hj, Lib.add_plain, World.cell?_drewN]
        exact cell?_putRow (fun (b : UInt8) => Value.int .u8 (b.toNat : Int)) _ w.heap.size 0 _ dk HH0.out (by rw [hF.size, Array.size_replicate]) j (by rw [hF.size]; rw [Lib.decDigits_length] at hj; exact hj))
      rw [Lib.decDigits_length] at h
      exact h
    go_wp2
    go_ret
    obtain ⟨os, eo⟩ := fin0 w (.cells Lib.zeros24 229) dk k
    refine ⟨rfl, ?_⟩
    rw [eo]
    exact below_grow w k os
theorem formatUint_any (u : Nat) (hu64 : u < 18446744073709551616) (w : World) (ht : Tab w) :
    Calls Tryz.prog 71 #[.int .u64 (u : Int), .int .i64 10] w fun e w' => e = .returned (.string ⟨(Lib.decDigits u).toArray⟩) ∧ Below w.heap.size w w' := by
  have HC := Lib.hid (formatUint_in u hu64 w ht)
  go_enter Tryz.func71, Tryz.ntmps71
  go_wp2_with fail
  refine HC.out.mono ?_
  rintro e w1 ⟨rfl, hb⟩
  go_wp2
  go_ret
  exact ⟨rfl, hb⟩
theorem itoa_any (n : Int) (h0 : -9223372036854775808 ≤ n) (h1 : n ≤ 9223372036854775807) (w : World) (ht : Tab w) :
    Calls Tryz.prog 67 #[.int .i64 n] w fun e w' => e = .returned (.string ⟨(Lib.itoa n).toArray⟩) ∧ Below w.heap.size w w' :=
  (Tryz.strconv_Itoa n h0 h1 w ht).mono fun _ _ ⟨h1, k, os, h2⟩ => ⟨h1, by rw [h2]; exact below_grow w k os⟩


def puint (l : List UInt8) : Nat × Bool := match Lib.parseUintB 64 l with | .ok v => (v, true) | .syntax => (0, false) | .range => (18446744073709551615, false)
def errv (ok : Bool) (ev : Value) : Prop := match ok with | true => ev = .nilIface | false => ∃ t p, ev = .iface t p
theorem parseUint_any (l : List UInt8) (hl : l.length ≤ 1000000) (w : World) (G : Glob w) :
    Calls Tryz.prog 95 #[.string ⟨l.toArray⟩, .int .i64 10, .int .i64 64] w fun e w' => (∃ ev, e = .returned (.tuple #[.int .u64 ((puint l).1 : Int), ev]) ∧ errv (puint l).2 ev) ∧ Below w.heap.size w w' := by
  have hsz : (ByteArray.mk l.toArray).size = l.length := by simp [ByteArray.size]
  obtain ⟨_, ⟨t, p, hs⟩, ⟨t', p', hr⟩, _⟩ := G
  rcases h : Lib.parseUintB 64 l with v | _ | _
  · refine (Tryz.strconv_ParseUint_10_at64_ok ⟨l.toArray⟩ (by omega) v (by simpa using h) w).mono ?_
    rintro e w' ⟨rfl, hw⟩
    refine ⟨⟨_, by rw [puint, h], by rw [puint, h]; rfl⟩, ?_⟩
    rcases hw with rfl | rfl
    · exact Below.refl _ _
    · exact Lib.bytesWorld_below _ _ _
  · refine (Tryz.strconv_ParseUint_10_at64_syntax_var ⟨l.toArray⟩ (by omega) (by simpa using h) t p w hs).mono ?_
    rintro e w' ⟨N, rfl, _, _, hb⟩
    exact ⟨⟨_, by rw [puint, h]; rfl, by rw [puint, h]; exact ⟨_, _, rfl⟩⟩, hb⟩
  · refine (Tryz.strconv_ParseUint_10_at64_range_var ⟨l.toArray⟩ (by omega) (by simpa using h) t' p' w hr).mono ?_
    rintro e w' ⟨N, rfl, _, _, hb⟩
    exact ⟨⟨_, by rw [puint, h]; rfl, by rw [puint, h]; exact ⟨_, _, rfl⟩⟩, hb⟩
theorem own_strs {w : World} {base n c : Nat} {A : Option Addr} {l : List (List UInt8)} (h : w.ownsRow base 9 1 (.slice A n c) n (l.map fun x => Value.string ⟨x.toArray⟩)) : w.ownsRow base 9 1 (.slice A n c) n (l.flatMap encS) := by
  have : l.flatMap encS = l.map fun x => Value.string ⟨x.toArray⟩ := by
    clear h
    induction l with
    | nil => rfl
    | cons x l ih => rw [List.flatMap_cons, ih]; rfl
  rw [this]; exact h
theorem fields_any (l : List UInt8) (hl : l.length ≤ 1000000) (w : World) (G : Glob w) :
    Calls Tryz.prog 165 #[.string ⟨l.toArray⟩] w fun e w' => (∃ A, e = .returned (.slice A (Lib.fieldsD l).length (Lib.fieldsD l).length) ∧ RdS w' w'.heap.size A 1 encS (Lib.fieldsD l)) ∧ Below w.heap.size w w' := by
  have hsz : (ByteArray.mk l.toArray).size = l.length := by simp [ByteArray.size]
  refine (Tryz.strings_Fields_any ⟨l.toArray⟩ w (by omega) G.spc G.wht).mono ?_
  rintro e w' ⟨A, rfl, hA, hown, hb⟩
  exact ⟨⟨_, rfl, own_rds encS_len (by omega) (own_strs hown)⟩, hb⟩
end Go.Proofs.YtadnfekogmjieaaGreatDoor
