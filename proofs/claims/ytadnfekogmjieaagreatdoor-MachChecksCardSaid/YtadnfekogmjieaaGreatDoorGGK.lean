/-
  strings.Builder's copyCheck and WriteString, walked at this program (its copyCheck holds a refused branch, so the shelf's laying does not serve).
  Layer 51: mach's Print.
  Layer 51: slices.Equal; mach's Size, on.
  Layer 51: slices.Equal of places; mach's Same.
-/
import Derived.Test.YtadnfekogmjieaaGreatDoorGShelf
import Derived.Test.YtadnfekogmjieaaGreatDoorGGA
import Derived.Test.YtadnfekogmjieaaGreatDoorGMS5
import Derived.Deep.QuietTactic
import Derived.BigQuiet
set_option linter.unusedVariables false
set_option linter.unusedSimpArgs false
namespace Go.Proofs.YtadnfekogmjieaaGreatDoor
open Go.RowKit

theorem info_byteB : (Tryz.prog.info? 5).map (fun i => (i.zero, i.size, i.bytes)) = some (some (.int .u8 0), 1, 1) := by kernel_rfl
theorem size_builder : (Tryz.prog.info? 104).map (·.size) = some 2 := Tryz.Builder_Extra_169.sizeBuilder

set_option maxHeartbeats 1000000 in
set_option maxRecDepth 100000 in
theorem copyCheck_used (b : Nat) (w : World) (h0 : w.cell? ⟨b, 0, none⟩ = some (.pointer (some ⟨b, 0, none⟩))) :
    Calls Tryz.prog 68 #[.pointer (some ⟨b, 0, none⟩)] w fun e w' => e = .returned (.tuple #[]) ∧ w' = w := by
  obtain ⟨j, hj, _⟩ := Option.map_eq_some_iff.1 size_builder
  go_enter Tryz.func68, Tryz.ntmps68
  go_wp2
  rw [Lib.run_neq_ptr_same w _ Tryz.underlying102 hj]
  go_wp2
  go_end0
  exact ⟨rfl, rfl⟩

set_option maxHeartbeats 1000000 in
set_option maxRecDepth 100000 in
theorem copyCheck_fresh (b : Nat) (w : World) (h0 : w.cell? ⟨b, 0, none⟩ = some (.pointer none)) (hsh : w.shape? b = some (104, 2)) (hfz : w.frozen? ⟨b, 0, none⟩ = false) :
    Calls Tryz.prog 68 #[.pointer (some ⟨b, 0, none⟩)] w fun e w' => e = .returned (.tuple #[]) ∧ w' = w.setCell ⟨b, 0, none⟩ (.pointer (some ⟨b, 0, none⟩)) := by
  obtain ⟨j, hj, hjs⟩ := Option.map_eq_some_iff.1 size_builder
  go_enter Tryz.func68, Tryz.ntmps68
  go_wp2
  rw [Lib.run_to_unsafe w ⟨b, 0, none⟩ Tryz.underlying102 Tryz.underlying187 hj (by rw [hjs]; decide) hsh (Nat.zero_lt_succ 1)]
  simp only [Result.andThen]
  rw [Oper.upon_value]
  go_wp2
  rw [run_callFunc_extern Tryz.func120 (by kernel_rfl) (by kernel_rfl) (by kernel_rfl) (e := Extern.AbiNoEscape.same) (by kernel_rfl)]
  rw [Lib.run_noEscape]
  simp only [Result.andThen]
  rw [Oper.upon_value]
  go_wp2
  rw [Lib.run_from_unsafe w ⟨b, 0, none⟩ Tryz.underlying187 Tryz.underlying102 hj hsh Tryz.Builder_Extra_169.liesBuilder]
  simp only [Result.andThen]
  rw [Oper.upon_value]
  go_wp2
  go_end0
  exact ⟨rfl, rfl⟩

theorem copyCheck_any (B b : Nat) (bs : List Value) (w : World) (h : Lib.IsBuilderF 104 5 B b bs w) :
    Calls Tryz.prog 68 #[.pointer (some ⟨b, 0, none⟩)] w fun e w' => e = .returned (.tuple #[]) ∧ Lib.BuilderAtF 104 5 B b (.pointer (some ⟨b, 0, none⟩)) bs w' ∧ Below B w w' ∧ Lib.OthersKept 5 (some b) w w' := by
  rcases h with h | h
  · refine (copyCheck_fresh b w h.cell0 h.shape h.frozen0).mono ?_
    rintro e w' ⟨rfl, rfl⟩
    exact ⟨rfl, h.used _, (Below.refl B w).setCell (p := ⟨b, 0, none⟩) h.1 _, (Lib.OthersKept.refl _ _ w).setCell ⟨b, 0, none⟩ rfl _⟩
  · refine (copyCheck_used b w h.cell0).mono ?_
    rintro e w' ⟨rfl, rfl⟩
    exact ⟨rfl, h, Below.refl B _, Lib.OthersKept.refl _ _ _⟩

set_option maxHeartbeats 2000000 in
set_option maxRecDepth 100000 in
theorem writeString_any (B b : Nat) (bs : List Value) (s : ByteArray) (w : World) (h : Lib.IsBuilderF 104 5 B b bs w) (hlen : bs.length + s.size ≤ 140737488355328) (hBw : B ≤ w.heap.size) :
    Calls Tryz.prog 32 #[.pointer (some ⟨b, 0, none⟩), .string s] w fun e w' => e = .returned (.tuple #[.int .i64 s.size, .nilIface]) ∧ Lib.BuilderAtF 104 5 B b (.pointer (some ⟨b, 0, none⟩)) (bs ++ Lib.strCells s) w' ∧ Below B w w' ∧ Lib.OthersKept 5 (some b) w w' := by
  obtain ⟨i0, hi, hz0, hz1, hz2⟩ := info_parts info_byteB
  go_enter Tryz.func32, Tryz.ntmps32
  go_wp2_with fail
  refine (copyCheck_any B b bs _ h).mono ?_
  rintro e w1 ⟨rfl, h1, hb1, hk1⟩
  obtain ⟨hB, v, hbk, hown, hne⟩ := h1
  have c0 : w1.cell? ⟨b, 0, none⟩ = some (.pointer (some ⟨b, 0, none⟩)) := by rw [Lib.cell_of_heap hbk]; rfl
  have c1 : w1.cell? ⟨b, 1, none⟩ = some v := by rw [Lib.cell_of_heap hbk]; rfl
  go_wp2_with (at_builtin; refine Lib.wpList_append_own_stringF _ rfl _ _ 86 9 rfl B 5 i0 Tryz.underlying86 Tryz.underlying9 hi hz0 hz1 hz2 _ _ _ rfl hown s rfl ?c3 ?c4 ?c5 ?_)
  case c3 => unfold maxLen; omega
  case c4 => omega
  case c5 => have := hb1.size; omega
  intro v' w2 hown' hgrow _
  have hlt : b < w1.heap.size := (Array.getElem?_eq_some_iff.1 hbk).1
  have hb2 : w2.heap[b]? = some (.cells #[.pointer (some ⟨b, 0, none⟩), v] 104 (0, 0)) := by
    rw [hgrow.block b hlt (fun e => hne e.symm)]
    exact hbk
  have d0 : w2.cell? ⟨b, 0, none⟩ = some (.pointer (some ⟨b, 0, none⟩)) := by rw [Lib.cell_of_heap hb2]; rfl
  have d1 : w2.cell? ⟨b, 1, none⟩ = some v := by rw [Lib.cell_of_heap hb2]; rfl
  have f1 : w2.frozen? ⟨b, 1, none⟩ = false := Lib.frozen_of_heap hb2 1
  obtain ⟨ao, n', cap, rfl⟩ : ∃ ao n' cap, v' = .slice ao n' cap := by
    rcases hown'.2 with ⟨hv, _⟩ | ⟨g, cap, cur, fz, hv, _⟩
    · exact ⟨_, _, _, hv⟩
    · exact ⟨_, _, _, hv⟩
  go_wp2
  go_ret2
  refine ⟨rfl, ?_, ?_, (hk1.grown hgrow (Lib.ownsRowF_kind hown)).setCell ⟨b, 1, none⟩ rfl _⟩
  · exact Lib.BuilderAtF.put (T := 104) (e := 5) hB hb2 (bs' := bs ++ Lib.strCells s) (by simpa [Lib.strCells_length] using hown') (by decide)
  · exact (hb1.grown hgrow (by have := hb1.size; omega) (fun k hk => (hown.lt k hk).1)).setCell (p := ⟨b, 1, none⟩) hB _
end Go.Proofs.YtadnfekogmjieaaGreatDoor
set_option linter.unusedVariables false
set_option linter.unusedSimpArgs false
namespace Go.Proofs.YtadnfekogmjieaaGreatDoor
open Go.RowKit
open Mc (Pl Mi Mf)
theorem builder_keep {T e : TypeId} {B b : Nat} {bs : List Value} {w w' : World} (h : Lib.IsBuilderF T e B b bs w) (hk : ∀ k, k < w.heap.size → w'.heap[k]? = w.heap[k]?) : Lib.IsBuilderF T e B b bs w' := by
  have H : ∀ p, Lib.BuilderAtF T e B b p bs w → Lib.BuilderAtF T e B b p bs w' := by
    rintro p ⟨hB, v, hb, hown, hne⟩
    refine ⟨hB, v, (hk b (Array.getElem?_eq_some_iff.1 hb).1).trans hb, ⟨hown.1, ?_⟩, hne⟩
    rcases hown.2 with h0 | ⟨g, cap, cur, fz, hv, h1, h2, h3⟩
    · exact .inl h0
    · exact .inr ⟨g, cap, cur, fz, hv, h1, (hk g (Array.getElem?_eq_some_iff.1 h2).1).trans h2, h3⟩
  exact h.elim (fun x => .inl (H _ x)) (fun x => .inr (H _ x))
theorem builder_new {T e : TypeId} {B : Nat} {w : World} (hB : B ≤ w.heap.size) : Lib.IsBuilderF T e B w.heap.size [] (w.alloc (.cells #[.pointer none, .slice none 0 0] T)) :=
  .inl ⟨hB, .slice none 0 0, heap_alloc_new w _, World.ownsRowF_nil _ _ _ _, by simp [Value.ownBlock]⟩
namespace Mc
def fin (T : List UInt8) : Option (List UInt8) → List UInt8
  | none => []
  | some t => T ++ t
theorem fin_none {T : List UInt8} {x : Mi} {l : List Mi} (h : line x = []) : fin T (printGo (x :: l)) = [] := by
  unfold printGo
  rw [if_pos h]; rfl
theorem fin_some {T : List UInt8} {x : Mi} {l : List Mi} (h : line x ≠ []) : fin T (printGo (x :: l)) = fin (T ++ (line x ++ [10])) (printGo l) := by
  conv => lhs; unfold printGo
  rw [if_neg h]
  rcases printGo l with _ | t
  · rfl
  · simp [fin]
theorem print_fin {f : Mf} (h : head f.ps f.rs f.slots ≠ []) : print f = fin (head f.ps f.rs f.slots ++ [10]) (printGo f.code) := by
  unfold print
  rw [if_neg h]
  rcases printGo f.code with _ | t
  · rfl
  · simp [fin]
theorem line_len {x : Mi} (h : x.Ok) : (line x).length ≤ 9999998 := by
  obtain ⟨a1, a2⟩ := lineW_len h
  have := join_len 31 _ a1
  unfold line
  split
  · omega
  · simp
theorem head_len {ps rs : List Int} {slots : Int} (h1 : ps.length ≤ 1000) (h2 : rs.length ≤ 1000) (h3 : InR slots) : (head ps rs slots).length ≤ 300000 := by
  have l1 := list_len ps (by omega)
  have l2 := list_len rs (by omega)
  have l3 := itoa_len h3
  unfold head
  split
  · unfold Ty.text; simp only [List.length_append, List.length_cons, List.length_nil]; omega
  · simp
end Mc
set_option maxHeartbeats 8000000 in
set_option maxRecDepth 100000 in
theorem print_any (f : Mf) (hf : f.Ok) (S : Nat → Prop) (P : Option Addr) (c1 : Nat) (R : Option Addr) (c2 : Nat) (C : Option Addr) (c3 : Nat) (w : World) (G : GlobM w) (h : MfAt S w f P R C) :
    Calls Tryz.prog 14 #[.agg (mfV f P c1 R c2 C c3)] w fun e w' => e = .returned (.string ⟨(Mc.print f).toArray⟩) ∧ Below w.heap.size w w' := by
  have HH := Lib.hid (fun W (hb : Below w.heap.size w W) => head_any f hf.ps hf.rs hf.slots S P c1 R c2 C c3 W (G.below hb).g (RdZ.on h.ps hb) (RdZ.on h.rs hb))
  have HLN := Lib.hid (fun (i : Nat) (hi : i < f.code.length) (D : Option Addr) (c1 : Nat) (E : Option Addr) (c2 : Nat) (T : Option Addr) (c3 : Nat) W (G : GlobM W) (h : MiRd S W f.code[i] D E T) => line_any f.code[i] (hf.code.2 _ (List.getElem_mem _)) S D c1 E c2 T c3 W G h)
  have HLL := Lib.hid (fun (i : Nat) (hi : i < f.code.length) => Mc.line_len (hf.code.2 f.code[i] (List.getElem_mem _)))
  have hhl := Mc.head_len hf.ps hf.rs hf.slots
  have hcl := hf.code.1
  have HPF := Lib.hid (@Mc.print_fin f)
  have hp0 : Mc.head f.ps f.rs f.slots = [] → Mc.print f = [] := fun h => by unfold Mc.print; rw [if_pos h]
  have HP0 := Lib.hid hp0
  obtain ⟨Z, hZ⟩ : ∃ Z, Mc.print f = Z := ⟨_, rfl⟩
  rw [hZ] at HPF HP0 ⊢
  obtain ⟨Hd, hHd⟩ : ∃ H, Mc.head f.ps f.rs f.slots = H := ⟨_, rfl⟩
  rw [hHd] at HH HPF HP0 hhl
  clear hHd hZ hp0 hf
  have HC := Lib.hid h.code
  have HG := Lib.hid G
  clear h G
  obtain ⟨ps, rs, slots, code⟩ := f
  unfold mfV at *
  dsimp only at *
  have HB := Lib.hid ((Below.refl w.heap.size w).alloc (Nat.le_refl _) (.cells #[.slice P ps.length c1, .slice R rs.length c2, .int .i64 slots, .slice C code.length c3] 39))
  have HV := Lib.hid (Var.new w #[.slice P ps.length c1, .slice R rs.length c2, .int .i64 slots, .slice C code.length c3] 39)
  by_cases h0 : Hd = []
  · have HZ := Lib.hid (HP0.out h0)
    subst h0
    go_enter Tryz.func14, Tryz.ntmps14
    go_wp2_with (go_at_call 31; with_reducible refine (HH.out _ HB.out).mono ?_; rintro e w1 ⟨rfl, hb⟩; have HB1 := Lib.hid (HB.out.trans (hb.mono HB.out.size)); clear hb)
    go_ret
    exact ⟨by rw [HZ.out]; rfl, HB1.out⟩
  have hz := HPF.out h0
  have q1 : (Hd == ([] : List UInt8)) = false := beq_eq_false_iff_ne.2 h0
  have q2 : ((ByteArray.mk Hd.toArray) == (ByteArray.mk #[])) = false := beq_no (b := []) h0
  have q3 : List.isEmpty Hd = false := by simpa using h0
  have hlen : ¬ (9223372036854775807 < Hd.length + 1) := by omega
  have hcat : (ByteArray.mk Hd.toArray ++ ByteArray.mk #[10]) = ByteArray.mk (Hd ++ [10]).toArray := cat_mk Hd [10]
  obtain ⟨T0, hT0⟩ : ∃ T, Hd ++ [10] = T := ⟨_, rfl⟩
  have hTl : T0.length ≤ 300001 := by rw [← hT0]; simp; omega
  rw [hT0] at hcat hz
  have HZ := Lib.hid hz
  have hsz : (ByteArray.mk T0.toArray).size = T0.length := by simp [ByteArray.size]
  clear hz h0 hT0 HPF HP0 hhl
  go_enter Tryz.func14, Tryz.ntmps14
  go_upto_region 4 with (go_at_call 31; with_reducible refine (HH.out _ HB.out).mono ?_; rintro e w1 ⟨rfl, hb⟩; have HB1 := Lib.hid (HB.out.trans (hb.mono HB.out.size)); have HV1 := Lib.hid (HV.out.below hb (by simp)); clear hb)
  have hK1 := HV1.out.lt
  have hbu0 : Lib.IsBuilderF 104 5 w1.heap.size w1.heap.size [] (w1.alloc (.cells #[.pointer none, .slice none 0 0] 104)) := builder_new (Nat.le_refl _)
  have hba := (Below.refl w1.heap.size w1).alloc (Nat.le_refl _) (.cells #[.pointer none, .slice none 0 0] 104)
  have hws := writeString_any w1.heap.size w1.heap.size [] ⟨T0.toArray⟩ _ hbu0 (by rw [hsz]; simp; omega) (by simp)
  have HWS := Lib.hid hws
  have HBA := Lib.hid hba
  clear hws hbu0 hba HH HB HV
  go_upto_region 6 with (go_at_call 32; refine HWS.out.mono ?_; rintro e w2 ⟨rfl, hbu, hb2, -⟩)
  have hcells : ([] : List Value) ++ Lib.strCells ⟨T0.toArray⟩ = Lib.byteCells T0 := by simp [Lib.byteCells, Lib.strCells]
  rw [hcells] at hbu
  have B2 := HBA.out.trans hb2
  have VB := HV1.out.below B2 hK1
  obtain ⟨⟨y0, y1, y2, y3⟩, -⟩ := cells4' VB
  have ky := VB.lt
  obtain ⟨Kb, hKb⟩ : ∃ K, w1.heap.size = K := ⟨_, rfl⟩
  rw [hKb] at hbu B2 hK1 ⊢
  have HKb := Lib.hid hKb
  clear hKb hcells hb2 HWS HBA VB
  go_wp2_with fail
  go_loopw [18] (fun iv wr => ∃ (i : Nat) (T : List UInt8), iv = .int .i64 (i : Int) ∧ i ≤ code.length ∧ T.length ≤ 300001 + i * 10000000 ∧ Hid (Z = Mc.fin T (Mc.printGo (code.drop i))) ∧ Hid (Lib.IsBuilderF 104 5 Kb Kb (Lib.byteCells T) wr) ∧ Hid (Below Kb w1 wr)) (fun iv _ => code.length - (intOf iv).toNat)
  case atStart => exact ⟨0, T0, rfl, by omega, by omega, by simpa using HZ, Lib.hid (.inr hbu), Lib.hid B2⟩
  case round =>
    clear hbu B2 HZ y0 y1 y2 y3 ky
    obtain ⟨i, T, rfl, hi, hTl2, HR, HBU, B2⟩ := hrel
    have hB : Below w.heap.size w wr := HB1.out.trans (B2.out.mono (by rw [← HKb.out]; exact HB1.out.size))
    have hKw : Kb ≤ wr.heap.size := by have := HKb.out; have := B2.out.size; omega
    by_cases hia : i < code.length
    · have x0 : (i : Int) < (code.length : Int) := by omega
      have x1 : (0 : Int) ≤ (i : Int) := by omega
      obtain ⟨g, o, rfl, -, -, hat⟩ := (RdM.on HC.out hB).get hia
      obtain ⟨D, d1, E, d2, Tt, d3, ⟨f0, f1, f2, f3, f4, f5, f6, f7, f8⟩, hrd⟩ := hat.cells
      have hR := HR.out
      rw [List.drop_eq_getElem_cons hia] at hR
      have hln := HLL.out i hia
      have hLN := HLN.out i hia
      obtain ⟨x, hx⟩ : ∃ x, code[i] = x := ⟨_, rfl⟩
      simp only [hx] at f0 f1 f2 f3 f4 f5 f6 f7 f8 hrd hR hln hLN
      have HLX := Lib.hid (fun W (hb : Below wr.heap.size wr W) => hLN D d1 E d2 Tt d3 W (HG.out.below (hB.trans (hb.mono hB.size))) (hrd.on hb))
      have HBx := Lib.hid ((Below.refl wr.heap.size wr).alloc (Nat.le_refl _) (.cells (miV x D d1 E d2 Tt d3) 61))
      obtain ⟨u, hu⟩ : ∃ u, Mc.line x = u := ⟨_, rfl⟩
      rw [hu] at HLX hln
      unfold miV at HLX HBx
      by_cases h0 : u = []
      · rw [Mc.fin_none (by rw [hu]; exact h0)] at hR
        have HR := Lib.hid hR
        subst h0
        clear hR hu hx hat hrd hLN hTl2
        have HBw := Lib.hid hB
        clear hB
        go_wp2_with (go_at_call 33; with_reducible refine (HLX.out _ HBx.out).mono ?_; rintro e w5 ⟨rfl, hb⟩; have hB5 := HBw.out.trans ((HBx.out.trans (hb.mono HBx.out.size)).mono HBw.out.size); clear hb)
        go_ret
        exact ⟨by rw [HR.out]; rfl, hB5⟩
      · rw [Mc.fin_some (by rw [hu]; exact h0), hu] at hR
        have q1 : (u == ([] : List UInt8)) = false := beq_eq_false_iff_ne.2 h0
        have q2 : ((ByteArray.mk u.toArray) == (ByteArray.mk #[])) = false := beq_no (b := []) h0
        have q3 : List.isEmpty u = false := by simpa using h0
        have hlen : ¬ (9223372036854775807 < u.length + 1) := by omega
        have hcat : (ByteArray.mk u.toArray ++ ByteArray.mk #[10]) = ByteArray.mk (u ++ [10]).toArray := cat_mk u [10]
        obtain ⟨v, hv⟩ : ∃ v, u ++ [10] = v := ⟨_, rfl⟩
        have hvl : v.length = u.length + 1 := by rw [← hv]; simp
        rw [hv] at hcat hR
        have hsv : (ByteArray.mk v.toArray).size = v.length := by simp [ByteArray.size]
        have HR := Lib.hid hR
        have HWR := Lib.hid (fun W (hb : Below wr.heap.size wr W) => writeString_any Kb Kb (Lib.byteCells T) ⟨v.toArray⟩ W (builder_keep HBU.out fun k hk => hb.block k hk) (by rw [Lib.byteCells_length, hsv]; omega) (Nat.le_trans hKw hb.size))
        clear hR hu hx hat hrd hLN hv h0
        have HBw := Lib.hid hB
        clear hB
        go_wp2_with (first
          | (go_at_call 33; with_reducible refine (HLX.out _ HBx.out).mono ?_; rintro e w5 ⟨rfl, hb⟩; have HB5 := Lib.hid (HBx.out.trans (hb.mono HBx.out.size)); clear hb)
          | (go_at_call 32; with_reducible refine (HWR.out _ HB5.out).mono ?_; rintro e w6 ⟨rfl, hbu6, hb6, -⟩; have B6 := Lib.hid (B2.out.trans ((HB5.out.mono hKw).trans hb6)); clear hb6))
        have hcells : Lib.byteCells T ++ Lib.strCells ⟨v.toArray⟩ = Lib.byteCells (T ++ v) := by simp [Lib.byteCells, Lib.strCells]
        rw [hcells] at hbu6
        clear hcells
        go_roundw
        case rel => exact ⟨i + 1, T ++ v, by go_num, by omega, by rw [List.length_append]; omega, HR, Lib.hid (.inr hbu6), B6⟩
        case measure => simp [intOf] <;> omega
    · obtain rfl : i = code.length := by omega
      have x0 : ¬ (code.length : Int) < (code.length : Int) := by omega
      have hR := HR.out
      rw [List.drop_length] at hR
      have hR2 : Z = T := by rw [hR]; simp [Mc.printGo, Mc.fin]
      have HZ := Lib.hid hR2
      have HS := Lib.hid (Tryz.Builder_String_any_f Kb Kb T wr HBU.out hKw)
      have HBw := Lib.hid hB
      clear hR hR2 HR HBU hB
      go_wp2_with (go_at_call 34; refine HS.out.mono ?_; rintro e w5 ⟨rfl, -, hb6⟩; have HB7 := Lib.hid (HBw.out.trans (hb6.mono (by have := HKb.out; have := HB1.out.size; omega))); clear hb6)
      go_ret
      exact ⟨by rw [HZ.out]; rfl, HB7.out⟩
end Go.Proofs.YtadnfekogmjieaaGreatDoor
set_option linter.unusedVariables false
set_option linter.unusedSimpArgs false
namespace Go.Proofs.YtadnfekogmjieaaGreatDoor
open Go.RowKit
open Mc (Pl Mi Mf)
theorem drop_cons2 {α : Type} {l : List α} {k : Nat} {t : α} (h : k < l.length) (ht : l[k] = t) : l.drop k = t :: l.drop (k + 1) := by rw [List.drop_eq_getElem_cons h, ht]
set_option maxHeartbeats 2000000 in
set_option maxRecDepth 100000 in
theorem eqN_any (S T : Nat → Prop) (A B : Option Addr) (c d : Nat) (xs ys : List Int) (w : World) (ha : RdZ w S A xs) (hb : RdZ w T B ys) (hl : xs.length ≤ 1000000) :
    Calls Tryz.prog 43 #[.slice A xs.length c, .slice B ys.length d] w fun e w' => e = .returned (.bool (decide (xs = ys))) ∧ Below w.heap.size w w' := by
  by_cases h : xs.length = ys.length
  · obtain ⟨n, hn⟩ : ∃ n, ys.length = n := ⟨_, rfl⟩
    rw [h, hn]
    have han : xs.length = n := h.trans hn
    go_enter Tryz.func43, Tryz.ntmps43
    go_wp2
    go_loopw [13] (fun iv wr => ∃ k : Nat, k ≤ n ∧ iv = .int .i64 (k : Int) ∧ Hid (decide (xs = ys) = decide (xs.drop k = ys.drop k)) ∧ Below w.heap.size w wr) (fun iv _ => n - (intOf iv).toNat)
    case atStart => exact ⟨0, by omega, rfl, by simp [Hid], Below.refl _ _⟩
    case round =>
      obtain ⟨k, hk, rfl, HR, hB⟩ := hrel
      by_cases hkl : k < n
      · obtain ⟨g, o, rfl, -, -, f0'⟩ := (RdZ.on ha hB).get (show k < xs.length by omega)
        obtain ⟨g2, o2, rfl, -, -, f1'⟩ := (RdZ.on hb hB).get (show k < ys.length by omega)
        have f0 : wr.cell? ⟨g, o + k, none⟩ = some (.int .i64 xs[k]) := by simpa [ZAt] using f0'
        have f1 : wr.cell? ⟨g2, o2 + k, none⟩ = some (.int .i64 ys[k]) := by simpa [ZAt] using f1'
        obtain ⟨t, ht⟩ : ∃ t, xs[k] = t := ⟨_, rfl⟩
        obtain ⟨u, hu⟩ : ∃ u, ys[k] = u := ⟨_, rfl⟩
        rw [ht] at f0
        rw [hu] at f1
        have hd := drop_cons2 (by omega) ht
        have hd' := drop_cons2 (by omega) hu
        have hk0 : (0 : Int) ≤ (k : Int) := Int.natCast_nonneg _
        have hk1 : (k : Int) < (n : Int) := by omega
        clear f0' f1'
        have HBW := Lib.hid hB
        clear hB
        rcases hv : (t == u) with _ | _
        · have hf : Hid (decide (xs = ys) = false) := by
            unfold Hid
            rw [HR.out, hd, hd']
            simp at hv ⊢
            intro e; exact absurd e hv
          have hv2 : (t != u) = true := by simp [bne, hv]
          clear ht hu hd hd'
          go_wp2
          go_region
          go_wp2
          go_ret
          exact ⟨by rw [hf.out]; rfl, HBW.out.trans ((below_dr _).mono HBW.out.size)⟩
        · have hf : Hid (decide (xs = ys) = decide (xs.drop (k + 1) = ys.drop (k + 1))) := by
            unfold Hid
            rw [HR.out, hd, hd']
            simp at hv
            simp [hv]
          have hv2 : (t != u) = false := by simp [bne, hv]
          clear ht hu hd hd'
          go_wp2
          go_region
          go_wp2
          go_roundw
          case rel => exact ⟨k + 1, by omega, by go_num, hf, HBW.out.trans ((below_dr _).mono HBW.out.size)⟩
          case measure => simp [intOf]; omega
      · have hf : Hid (decide (xs = ys) = true) := by unfold Hid; rw [HR.out, List.drop_of_length_le (by omega), List.drop_of_length_le (by omega)]; simp
        have hk1 : ¬ (k : Int) < (n : Int) := by omega
        have HBW := Lib.hid hB
        clear hB
        go_wp2
        go_ret
        exact ⟨by rw [hf.out]; rfl, HBW.out⟩
  · have hf : Hid (decide (xs = ys) = false) := by unfold Hid; simp; intro e; exact h (by rw [e])
    have g1 : ((xs.length : Int) == (ys.length : Int)) = false := by simp; omega
    have g2 : ((xs.length : Int) != (ys.length : Int)) = true := by simp [bne, g1]
    go_enter Tryz.func43, Tryz.ntmps43
    go_wp2
    go_ret
    exact ⟨by rw [hf.out]; rfl, Below.refl _ _⟩
theorem size_any (f : Mf) (P : Option Addr) (c1 : Nat) (R : Option Addr) (c2 : Nat) (C : Option Addr) (c3 : Nat) (w : World) :
    Calls Tryz.prog 18 #[.agg (mfV f P c1 R c2 C c3)] w fun e w' => e = .returned (.int .i64 (f.code.length : Int)) ∧ Below w.heap.size w w' := by
  unfold mfV
  have HB := Lib.hid ((Below.refl w.heap.size w).alloc (Nat.le_refl _) (.cells #[.slice P f.ps.length c1, .slice R f.rs.length c2, .int .i64 f.slots, .slice C f.code.length c3] 39))
  go_enter Tryz.func18, Tryz.ntmps18
  go_wp2
  go_ret
  exact ⟨rfl, HB.out⟩
namespace Mc
def on (k : Int) : Bool := !(k == 19 || k == 21 || k == 22 || k == 23)
end Mc
set_option maxHeartbeats 2000000 in
set_option maxRecDepth 100000 in
theorem on_any (x : Mi) (D : Option Addr) (c1 : Nat) (E : Option Addr) (c2 : Nat) (T : Option Addr) (c3 : Nat) (w : World) :
    Calls Tryz.prog 28 #[.agg (miV x D c1 E c2 T c3)] w fun e w' => e = .returned (.bool (Mc.on x.kind)) ∧ Below w.heap.size w w' := by
  unfold miV
  have HB := Lib.hid ((Below.refl w.heap.size w).alloc (Nat.le_refl _) (.cells #[.int .i64 x.kind, .int .i64 x.op, .int .i64 x.a, .int .i64 x.b, .int .u64 (x.n : Int), .slice D x.d.length c1, .slice E x.s.length c2, .slice T x.tos.length c3, .int .i64 x.trap] 61))
  unfold Mc.on
  rcases h1 : (x.kind == 19) with _ | _
  case true =>
    go_enter Tryz.func28, Tryz.ntmps28
    go_wp2
    go_ret
    exact ⟨rfl, HB.out⟩
  rcases h2 : (x.kind == 21) with _ | _
  case true =>
    go_enter Tryz.func28, Tryz.ntmps28
    go_wp2
    go_ret
    exact ⟨rfl, HB.out⟩
  rcases h3 : (x.kind == 22) with _ | _
  case true =>
    go_enter Tryz.func28, Tryz.ntmps28
    go_wp2
    go_ret
    exact ⟨rfl, HB.out⟩
  rcases h4 : (x.kind == 23) with _ | _
  all_goals
    go_enter Tryz.func28, Tryz.ntmps28
    go_wp2
    go_ret
    exact ⟨rfl, HB.out⟩
end Go.Proofs.YtadnfekogmjieaaGreatDoor
set_option linter.unusedVariables false
set_option linter.unusedSimpArgs false
namespace Go.Proofs.YtadnfekogmjieaaGreatDoor
open Go.RowKit
open Mc (Pl Mi Mf)
set_option maxHeartbeats 2000000 in
set_option maxRecDepth 100000 in
theorem eqP_any (S T : Nat → Prop) (A B : Option Addr) (c d : Nat) (xs ys : List Pl) (w : World) (ha : RdP w S A xs) (hb : RdP w T B ys) (hl : xs.length ≤ 1000000) :
    Calls Tryz.prog 42 #[.slice A xs.length c, .slice B ys.length d] w fun e w' => e = .returned (.bool (decide (xs = ys))) ∧ Below w.heap.size w w' := by
  by_cases h : xs.length = ys.length
  · obtain ⟨n, hn⟩ : ∃ n, ys.length = n := ⟨_, rfl⟩
    rw [h, hn]
    have han : xs.length = n := h.trans hn
    go_enter Tryz.func42, Tryz.ntmps42
    go_wp2
    go_loopw [13] (fun iv wr => ∃ k : Nat, k ≤ n ∧ iv = .int .i64 (k : Int) ∧ Hid (decide (xs = ys) = decide (xs.drop k = ys.drop k)) ∧ Below w.heap.size w wr) (fun iv _ => n - (intOf iv).toNat)
    case atStart => exact ⟨0, by omega, rfl, by simp [Hid], Below.refl _ _⟩
    case round =>
      obtain ⟨k, hk, rfl, HR, hB⟩ := hrel
      by_cases hkl : k < n
      · obtain ⟨g, o, rfl, -, -, f0, f1⟩ := (RdP.on ha hB).get (show k < xs.length by omega)
        obtain ⟨g2, o2, rfl, -, -, f2, f3⟩ := (RdP.on hb hB).get (show k < ys.length by omega)
        obtain ⟨t, ht⟩ : ∃ t, xs[k] = t := ⟨_, rfl⟩
        obtain ⟨u, hu⟩ : ∃ u, ys[k] = u := ⟨_, rfl⟩
        rw [ht] at f0 f1
        rw [hu] at f2 f3
        have hd := drop_cons2 (by omega) ht
        have hd' := drop_cons2 (by omega) hu
        have hk0 : (0 : Int) ≤ (k : Int) := Int.natCast_nonneg _
        have hk1 : (k : Int) < (n : Int) := by omega
        have HBW := Lib.hid hB
        clear hB
        by_cases e1 : t.slot = u.slot
        case neg =>
          have hne : t ≠ u := fun e => e1 (by rw [e])
          have hf : Hid (decide (xs = ys) = false) := by
            unfold Hid
            rw [HR.out, hd, hd']
            simp only [List.cons.injEq, decide_eq_false_iff_not]
            exact fun e => hne e.1
          clear ht hu hd hd' hne
          go_wp2
          go_region
          go_wp2
          go_ret
          exact ⟨by rw [hf.out]; rfl, HBW.out.trans ((below_dr _).mono HBW.out.size)⟩
        by_cases e2 : t.n = u.n
        case neg =>
          have hne : t ≠ u := fun e => e2 (by rw [e])
          have hf : Hid (decide (xs = ys) = false) := by
            unfold Hid
            rw [HR.out, hd, hd']
            simp only [List.cons.injEq, decide_eq_false_iff_not]
            exact fun e => hne e.1
          clear ht hu hd hd' hne
          go_wp2
          go_region
          go_wp2
          go_ret
          exact ⟨by rw [hf.out]; rfl, HBW.out.trans ((below_dr _).mono HBW.out.size)⟩
        have hf : Hid (decide (xs = ys) = decide (xs.drop (k + 1) = ys.drop (k + 1))) := by
          have heq : t = u := by
            obtain ⟨t1, t2⟩ := t
            obtain ⟨u1, u2⟩ := u
            dsimp only at e1 e2
            rw [e1, e2]
          unfold Hid
          rw [HR.out, hd, hd', heq]
          simp
        clear ht hu hd hd'
        go_wp2
        go_region
        go_wp2
        go_roundw
        case rel => exact ⟨k + 1, by omega, by go_num, hf, HBW.out.trans ((below_dr _).mono HBW.out.size)⟩
        case measure => simp [intOf]; omega
      · have hf : Hid (decide (xs = ys) = true) := by unfold Hid; rw [HR.out, List.drop_of_length_le (by omega), List.drop_of_length_le (by omega)]; simp
        have hk1 : ¬ (k : Int) < (n : Int) := by omega
        have HBW := Lib.hid hB
        clear hB
        go_wp2
        go_ret
        exact ⟨by rw [hf.out]; rfl, HBW.out⟩
  · have hf : Hid (decide (xs = ys) = false) := by unfold Hid; simp; intro e; exact h (by rw [e])
    have g1 : ((xs.length : Int) == (ys.length : Int)) = false := by simp; omega
    have g2 : ((xs.length : Int) != (ys.length : Int)) = true := by simp [bne, g1]
    go_enter Tryz.func42, Tryz.ntmps42
    go_wp2
    go_ret
    exact ⟨by rw [hf.out]; rfl, Below.refl _ _⟩
namespace Mc
def miEq (x y : Mi) : Bool := (((((((decide (x.kind = y.kind) && decide (x.op = y.op)) && decide (x.a = y.a)) && decide (x.b = y.b)) && decide (x.n = y.n)) && decide (x.trap = y.trap)) && decide (x.d = y.d)) && decide (x.s = y.s)) && decide (x.tos = y.tos)
theorem miEq_iff (x y : Mi) : miEq x y = decide (x = y) := by
  obtain ⟨a1, a2, a3, a4, a5, a6, a7, a8, a9⟩ := x
  obtain ⟨b1, b2, b3, b4, b5, b6, b7, b8, b9⟩ := y
  unfold miEq
  rw [Bool.eq_iff_iff]
  simp only [Bool.and_eq_true, decide_eq_true_eq, Mi.mk.injEq]
  constructor
  · rintro ⟨⟨⟨⟨⟨⟨⟨⟨h1, h2⟩, h3⟩, h4⟩, h5⟩, h6⟩, h7⟩, h8⟩, h9⟩
    exact ⟨h1, h2, h3, h4, h5, h7, h8, h9, h6⟩
  · rintro ⟨h1, h2, h3, h4, h5, h7, h8, h9, h6⟩
    exact ⟨⟨⟨⟨⟨⟨⟨⟨h1, h2⟩, h3⟩, h4⟩, h5⟩, h6⟩, h7⟩, h8⟩, h9⟩
end Mc
end Go.Proofs.YtadnfekogmjieaaGreatDoor
