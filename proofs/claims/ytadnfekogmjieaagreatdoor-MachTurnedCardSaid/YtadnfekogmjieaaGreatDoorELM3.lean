/-
  Layer 51, the laws: Light of a module. (Printed by gen_lm3.py.)
-/
import Derived.Test.YtadnfekogmjieaaGreatDoorELM2
set_option linter.unusedVariables false
set_option linter.unusedSimpArgs false
namespace Go.Proofs.YtadnfekogmjieaaGreatDoor
open Go.RowKit
open Mc (Pl Mi Mf Th Wt Im Md)
/-- A small module. -/
structure Mc.Md.Lite (m : Md) : Prop where
  ty : m.types.length ≤ 100
  im : m.imps.length ≤ 100
  fn : m.funcs.length ≤ 100
  tb : m.tables.length ≤ 100
  mm : m.mems ≤ 100
  gl : m.globals.length ≤ 100
  el : m.elems ≤ 100
  da : m.datas ≤ 100
/-- An answer; if it is true, the module is small. -/
def LiteOut (m : Md) (e : Ending) : Prop := ∃ b, e = .returned (.bool b) ∧ (b = true → m.Lite)
theorem LiteOut.no (m : Md) : LiteOut m (.returned (.bool false)) := ⟨false, rfl, fun h => by cases h⟩
theorem LiteOut.yes {m : Md} (h : m.Lite) (b : Bool) : LiteOut m (.returned (.bool b)) := ⟨b, rfl, fun _ => h⟩
def encV (v : BV) : List Value := [.slice v.1 v.2.1 v.2.2]
theorem encV_len (v : BV) : (encV v).length = 1 := rfl
theorem encV_one (v : BV) : ∀ u ∈ encV v, u.oneCell' = true := by simp [encV, Value.oneCell']
theorem info_body : (Tryz.prog.info? 77).map (fun i => (i.zero, i.size, i.bytes)) = some (some (.slice none 0 0), 1, 24) := by kernel_rfl
theorem one_body (W : World) (A : Option Addr) (n c : Nat) : Reads (W.alloc (.cells #[.slice A n c] 77)) (W.alloc (.cells #[.slice A n c] 77)).heap.size 1 (some ⟨W.heap.size, 0, none⟩) 1 (([(A, n, c)] : List BV).flatMap encV) := block_reads (cs := #[.slice A n c]) rfl (heap_alloc_new W _)
/-- The state of Light: the bodies gathered so far. -/
structure BdSt (w W : World) (m : Md) (x : MX) (S : Nat → Prop) (A : Option Addr) (c : Nat) (L : List BV) : Prop where
  bel : Below w.heap.size w W
  md : Var W w.heap.size (mdA m x) 33
  own : W.ownsRow (w.heap.size + 1) 77 1 (.slice A L.length c) L.length (L.flatMap encV)
  rows : ∀ v ∈ L, BdRd S W v.1 v.2.1
  ml : MdL S W m x
section
variable {w W W' : World} {m : Md} {x : MX} {S : Nat → Prop} {A : Option Addr} {c : Nat} {L : List BV}
theorem BdSt.below (h : BdSt w W m x S A c L) (hb : Below W.heap.size W W') : BdSt w W' m x S A c L :=
  ⟨h.bel.trans (hb.mono h.bel.size), var_keep h.md hb, own_belowW h.own hb, fun v hv => (h.rows v hv).keep (Below.keep hb S) hb.size, h.ml.on hb⟩
/-- Bodies appended. -/
theorem BdSt.app (h : BdSt w W m x S A c L) (hS : ∀ g, S g → g < w.heap.size) {l : List BV} {M : Nat} (hM : l.length = M) (hl : ∀ v ∈ l, BdRd S W v.1 v.2.1) {A' : Option Addr} {c' : Nat} (own : W'.ownsRow (w.heap.size + 1) 77 1 (.slice A' (L.length + M) c') (L.length + M) ((L ++ l).flatMap encV)) (hg : W.grownBy W' (Value.slice A L.length c).ownBlock) : BdSt w W' m x S A' c' (L ++ l) := by
  subst hM
  have hlo : ∀ j, (Value.slice A L.length c).ownBlock = some j → w.heap.size + 1 ≤ j := fun j hj => (h.own.lt j hj).1
  have hk : Keep S W W' := fun p u hs hc => hg.cell hc (fun e => by have := hlo _ e.symm; have := hS _ hs; omega)
  refine ⟨h.bel.grown hg h.bel.size (fun j hj => by have := hlo j hj; omega), var_grown h.md h.own (by decide) hg, by rw [List.length_append]; exact own, fun v hv => ?_, h.ml.keep hk hg.size⟩
  rcases List.mem_append.1 hv with hv | hv
  · exact (h.rows v hv).keep hk hg.size
  · exact (hl v hv).keep hk hg.size
theorem BdSt.rd (h : BdSt w W m x S A c L) : RdT W (fun g => S g ∨ w.heap.size < g) A 1 (ItAt (fun g => S g ∨ w.heap.size < g)) L := fun hne => by
  obtain ⟨g, o, e, hb, hc⟩ := own_rds encV_len (by omega) h.own hne
  refine ⟨g, o, e, .inr (by subst e; have := (h.own.lt g rfl).1; omega), hb, fun i hi => ⟨?_, (h.rows _ (List.getElem_mem hi)).mono fun _ _ hg => .inl hg⟩⟩
  have := hc i hi 0 _ rfl
  rwa [Nat.add_zero] at this
theorem BdSt.new (h : MdL S w m x) : BdSt w (w.alloc (.cells (mdA m x) 33)) m x S none 0 [] := by
  have hb := (Below.refl w.heap.size w).alloc (Nat.le_refl _) (.cells (mdA m x) 33)
  exact ⟨hb, Var.new _ _ _, World.ownsRow_nil _ _ _ _, by simp, h.on hb⟩
end
theorem items_reads {W : World} {S : Nat → Prop} {B : Option Addr} {l : List BV} (h : RdT W S B 1 (ItAt S) l) : Reads W W.heap.size 1 B l.length (l.flatMap encV) := by
  refine RdS.reads encV_len fun hl => ?_
  obtain ⟨g, o, e, -, hb, hc⟩ := h hl
  refine ⟨g, o, e, hb, fun i hi j v hj => ?_⟩
  have h1 := (hc i hi).1
  have hj0 : j = 0 := by
    rcases Nat.lt_or_ge j 1 with h2 | h2
    · omega
    · rw [List.getElem?_eq_none (by rw [encV_len]; exact h2)] at hj; cases hj
  subst hj0
  rw [Nat.add_zero]
  have : v = .slice l[i].1 l[i].2.1 l[i].2.2 := by simpa [encV] using hj.symm
  rw [this]; exact h1
theorem items_bodies {W : World} {S : Nat → Prop} {B : Option Addr} {l : List BV} (h : RdT W S B 1 (ItAt S) l) : ∀ v ∈ l, BdRd S W v.1 v.2.1 := fun v hv => by
  obtain ⟨i, hi, e⟩ := List.mem_iff_getElem.1 hv
  obtain ⟨g, o, -, -, -, hc⟩ := h.get hi
  rw [e] at hc
  exact hc.2
set_option maxHeartbeats 16000000 in
set_option maxRecDepth 100000 in
/-- Light. -/
theorem mdlight_any (m : Md) (x : MX) (ho : x.One) (S : Nat → Prop) (w : World) (hS : ∀ g, S g → g < w.heap.size) (h : MdL S w m x) :
    Calls Tryz.prog 9 #[.agg (mdA m x)] w fun e w' => LiteOut m e ∧ Below w.heap.size w w' := by
  obtain ⟨i0, hi0, hz0, hz1, hz2⟩ := info_parts info_body
  have HST := Lib.hid (BdSt.new h)
  have HS := Lib.hid hS
  obtain ⟨A6, c6, l6, e6, -⟩ := h.ex
  obtain ⟨A11, c11, l11, e11, -⟩ := h.cu
  obtain ⟨⟨A6', n6', c6', e6'⟩, ⟨b7, e7⟩, ⟨z8, e8⟩, A11', n11', c11', e11'⟩ := ho
  clear e6' e11' hS h
  have HE6 := Lib.hid e6
  have HE11 := Lib.hid e11
  have HLT := Lib.hid (fun (a1 : m.types.length ≤ 100) (a2 : m.imps.length ≤ 100) (a3 : m.funcs.length ≤ 100) (a4 : m.tables.length ≤ 100) (a5 : m.mems ≤ 100) (a6 : m.globals.length ≤ 100) (a7 : m.elems ≤ 100) (a8 : m.datas ≤ 100) => (⟨a1, a2, a3, a4, a5, a6, a7, a8⟩ : m.Lite))
  clear e6 e7 e8 e11
  go_enter Tryz.func9, Tryz.ntmps9
  go_upto_region 1 with fail
  refine at_code (F := fun W => Hid (BdSt w W m x S none 0 [])) HST ?_
  clear HST
  intro W ST
  obtain ⟨⟨g0, g1, g2, g3, g4, g5⟩, g6, -, -, g9, g10, g11⟩ := mdA_cells ST.out.md
  rw [HE6.out] at g6
  rw [HE11.out] at g11
  by_cases p0 : (100 : Int) < (m.types.length : Int)
  · go_wp2_with fail
    go_ret
    exact ⟨LiteOut.no m, ST.out.bel⟩
  by_cases p1 : (100 : Int) < (m.imps.length : Int)
  · go_wp2_with fail
    go_ret
    exact ⟨LiteOut.no m, ST.out.bel⟩
  by_cases p2 : (100 : Int) < (m.funcs.length : Int)
  · go_wp2_with fail
    go_ret
    exact ⟨LiteOut.no m, ST.out.bel⟩
  by_cases p3 : (100 : Int) < (m.tables.length : Int)
  · go_wp2_with fail
    go_ret
    exact ⟨LiteOut.no m, ST.out.bel⟩
  by_cases p4 : (100 : Int) < (m.mems : Int)
  · go_wp2_with fail
    go_ret
    exact ⟨LiteOut.no m, ST.out.bel⟩
  by_cases p5 : (100 : Int) < (m.globals.length : Int)
  · go_wp2_with fail
    go_ret
    exact ⟨LiteOut.no m, ST.out.bel⟩
  by_cases p6 : (100 : Int) < (l6.length : Int)
  · go_wp2_with fail
    go_ret
    exact ⟨LiteOut.no m, ST.out.bel⟩
  by_cases p7 : (100 : Int) < (m.elems : Int)
  · go_wp2_with fail
    go_ret
    exact ⟨LiteOut.no m, ST.out.bel⟩
  by_cases p8 : (100 : Int) < (m.datas : Int)
  · go_wp2_with fail
    go_ret
    exact ⟨LiteOut.no m, ST.out.bel⟩
  by_cases p9 : (100 : Int) < (l11.length : Int)
  · go_wp2_with fail
    go_ret
    exact ⟨LiteOut.no m, ST.out.bel⟩
  have HLI := Lib.hid (HLT.out (by omega) (by omega) (by omega) (by omega) (by omega) (by omega) (by omega) (by omega))
  clear HLT
  go_wp2_with fail
  clear g0 g1 g2 g3 g4 g5 g6 g9 g10 g11
  go_loopw [4, 5] (fun nv iv wr => ∃ (i : Nat) (z : Int), nv = .int .i64 z ∧ iv = .int .i64 (i : Int) ∧ i ≤ m.types.length ∧ Hid (BdSt w wr m x S none 0 [])) (fun _ iv _ => m.types.length - (intOf iv).toNat)
  case atStart => exact ⟨0, _, rfl, rfl, by omega, ST⟩
  case round =>
    clear ST
    obtain ⟨i, z, rfl, rfl, hi, ST⟩ := hrel
    obtain ⟨⟨g0, g1, g2, g3, g4, g5⟩, g6, -, -, g9, g10, g11⟩ := mdA_cells ST.out.md
    rw [HE6.out] at g6
    rw [HE11.out] at g11
    by_cases hia : i < m.types.length
    · have x0 : (i : Int) < (m.types.length : Int) := by omega
      have x1 : (0 : Int) ≤ (i : Int) := by omega
      obtain ⟨g, o, hAE, -, -, A1, k1, B1, k2, f0, f1⟩ := ST.out.ml.ty.get hia
      rw [hAE] at g0
      clear hAE
      go_upto_region 8 with fail
      go_quiet (fail)
      go_wp2_with fail
      go_roundw
      case rel => exact ⟨i + 1, _, rfl, by go_num, by omega, Lib.hid (ST.out.below (below_drewN _ _))⟩
      case measure => simp [intOf] <;> omega
    · have x0 : ¬ (i : Int) < (m.types.length : Int) := by omega
      go_wp2_with fail
      clear g0 g1 g2 g3 g4 g5 g6 g9 g10 g11 x0
      go_loopw [4, 6] (fun nv iv wr => ∃ (i : Nat) (z : Int), nv = .int .i64 z ∧ iv = .int .i64 (i : Int) ∧ i ≤ m.imps.length ∧ Hid (BdSt w wr m x S none 0 [])) (fun _ iv _ => m.imps.length - (intOf iv).toNat)
      case atStart => exact ⟨0, _, rfl, rfl, by omega, ST⟩
      case round =>
        clear ST
        obtain ⟨i, z, rfl, rfl, hi, ST⟩ := hrel
        obtain ⟨⟨g0, g1, g2, g3, g4, g5⟩, g6, -, -, g9, g10, g11⟩ := mdA_cells ST.out.md
        rw [HE6.out] at g6
        rw [HE11.out] at g11
        by_cases hia : i < m.imps.length
        · have x0 : (i : Int) < (m.imps.length : Int) := by omega
          have x1 : (0 : Int) ≤ (i : Int) := by omega
          obtain ⟨g, o, hAE, -, -, u0, u1, l0, l1, l2, n0, n1, n2, hat⟩ := ST.out.ml.im.get hia
          rw [hAE] at g1
          clear hAE
          have f0 := hat 0 _ rfl
          have f1 := hat 1 _ rfl
          rw [Nat.add_zero] at f0
          clear hat
          go_upto_region 12 with fail
          go_quiet (fail)
          go_wp2_with fail
          go_roundw
          case rel => exact ⟨i + 1, _, rfl, by go_num, by omega, Lib.hid (ST.out.below (below_drewN _ _))⟩
          case measure => simp [intOf] <;> omega
        · have x0 : ¬ (i : Int) < (m.imps.length : Int) := by omega
          go_wp2_with fail
          clear g0 g1 g2 g3 g4 g5 g6 g9 g10 g11 x0
          go_loopw [3, 4, 7] (fun av nv iv wr => ∃ (i : Nat) (z : Int) (A : Option Addr) (c : Nat) (L : List BV), av = .slice A L.length c ∧ nv = .int .i64 z ∧ iv = .int .i64 (i : Int) ∧ i ≤ m.funcs.length ∧ L.length ≤ i ∧ Hid (BdSt w wr m x S A c L)) (fun _ _ iv _ => m.funcs.length - (intOf iv).toNat)
          case atStart => exact ⟨0, _, none, 0, [], rfl, rfl, rfl, by omega, by first | omega | (simp; done) | (simp; omega), ST⟩
          case round =>
            clear ST
            obtain ⟨i, z, A, c, L, rfl, rfl, rfl, hi, hLl, ST⟩ := hrel
            obtain ⟨⟨g0, g1, g2, g3, g4, g5⟩, g6, -, -, g9, g10, g11⟩ := mdA_cells ST.out.md
            rw [HE6.out] at g6
            rw [HE11.out] at g11
            by_cases hia : i < m.funcs.length
            · have x0 : (i : Int) < (m.funcs.length : Int) := by omega
              have x1 : (0 : Int) ≤ (i : Int) := by omega
              obtain ⟨g, o, hAE, -, -, A1, k1, d1, B1, k2, d2, ⟨f0, f1, f2⟩, hbd⟩ := ST.out.ml.fn.get hia
              rw [hAE] at g2
              clear hAE
              have HBD := Lib.hid hbd
              clear hbd
              go_upto_region 17 with fail
              go_wp2_with (at_builtin; have haa := (Below.refl wr.heap.size wr).alloc (Nat.le_refl _) (.cells #[.slice B1 k2 d2] 77); have SA := ST.out.below haa; refine app_rs2 Tryz.underlying66 hi0 hz0 hz1 hz2 (by rfl) (by omega) encV_len encV_one _ rfl (.tmp 135) (.tmp 142) rfl (w.heap.size + 1) (.slice A L.length c) L.length L (by rfl) SA.own [(B1, k2, d2)] 1 1 _ rfl (by rfl) (one_body wr B1 k2 d2) (by omega) (by decide) (by have := SA.bel.size; have := SA.md.lt; omega) ?_; intro A' c' w6 own6 hg6 _; have POK := Lib.hid (SA.app HS.out rfl (fun v hv => by rw [List.mem_singleton.1 hv]; exact HBD.out.keep (Below.keep haa S) haa.size) own6 hg6))
              go_roundw
              case rel => exact ⟨i + 1, _, A', c', L ++ [(B1, k2, d2)], by rw [List.length_append]; rfl, rfl, by go_num, by omega, by rw [List.length_append]; simp; omega, POK⟩
              case measure => simp [intOf] <;> omega
            · have x0 : ¬ (i : Int) < (m.funcs.length : Int) := by omega
              go_wp2_with fail
              clear g0 g1 g2 g3 g4 g5 g6 g9 g10 g11 x0
              go_loopw [3, 8] (fun av iv wr => ∃ (i : Nat) (A : Option Addr) (c : Nat) (L : List BV), av = .slice A L.length c ∧ iv = .int .i64 (i : Int) ∧ i ≤ m.globals.length ∧ L.length ≤ 100 + i ∧ Hid (BdSt w wr m x S A c L)) (fun _ iv _ => m.globals.length - (intOf iv).toNat)
              case atStart => exact ⟨0, _, _, _, rfl, rfl, by omega, by first | omega | (simp; done) | (simp; omega), ST⟩
              case round =>
                clear ST
                obtain ⟨i, A, c, L, rfl, rfl, hi, hLl, ST⟩ := hrel
                obtain ⟨⟨g0, g1, g2, g3, g4, g5⟩, g6, -, -, g9, g10, g11⟩ := mdA_cells ST.out.md
                rw [HE6.out] at g6
                rw [HE11.out] at g11
                by_cases hia : i < m.globals.length
                · have x0 : (i : Int) < (m.globals.length : Int) := by omega
                  have x1 : (0 : Int) ≤ (i : Int) := by omega
                  obtain ⟨g, o, hAE, -, -, B1, k2, d2, ⟨f0, f1, f2⟩, hbd⟩ := ST.out.ml.gl.get hia
                  rw [hAE] at g5
                  clear hAE
                  have HBD := Lib.hid hbd
                  clear hbd
                  go_wp2_with (at_builtin; have haa := (Below.refl wr.heap.size wr).alloc (Nat.le_refl _) (.cells #[.slice B1 k2 d2] 77); have SA := ST.out.below haa; refine app_rs2 Tryz.underlying66 hi0 hz0 hz1 hz2 (by rfl) (by omega) encV_len encV_one _ rfl (.tmp 151) (.tmp 158) rfl (w.heap.size + 1) (.slice A L.length c) L.length L (by rfl) SA.own [(B1, k2, d2)] 1 1 _ rfl (by rfl) (one_body wr B1 k2 d2) (by omega) (by decide) (by have := SA.bel.size; have := SA.md.lt; omega) ?_; intro A' c' w6 own6 hg6 _; have POK := Lib.hid (SA.app HS.out rfl (fun v hv => by rw [List.mem_singleton.1 hv]; exact HBD.out.keep (Below.keep haa S) haa.size) own6 hg6))
                  go_roundw
                  case rel => exact ⟨i + 1, A', c', L ++ [(B1, k2, d2)], by rw [List.length_append]; rfl, by go_num, by omega, by rw [List.length_append]; simp; omega, POK⟩
                  case measure => simp [intOf] <;> omega
                · have x0 : ¬ (i : Int) < (m.globals.length : Int) := by omega
                  go_wp2_with fail
                  clear g0 g1 g2 g3 g4 g5 g6 g9 g10 g11 x0
                  go_loopw [4, 9] (fun nv iv wr => ∃ (i : Nat) (z : Int), nv = .int .i64 z ∧ iv = .int .i64 (i : Int) ∧ i ≤ l6.length ∧ Hid (BdSt w wr m x S A c L)) (fun _ iv _ => l6.length - (intOf iv).toNat)
                  case atStart => exact ⟨0, _, rfl, rfl, by omega, ST⟩
                  case round =>
                    clear ST
                    obtain ⟨i, z, rfl, rfl, hi, ST⟩ := hrel
                    obtain ⟨⟨g0, g1, g2, g3, g4, g5⟩, g6, -, -, g9, g10, g11⟩ := mdA_cells ST.out.md
                    rw [HE6.out] at g6
                    rw [HE11.out] at g11
                    by_cases hia : i < l6.length
                    · have x0 : (i : Int) < (l6.length : Int) := by omega
                      have x1 : (0 : Int) ≤ (i : Int) := by omega
                      obtain ⟨A6x, c6x, l6x, e6x, r6⟩ := ST.out.ml.ex
                      rw [HE6.out] at e6x
                      injection e6x with q1 q2 q3
                      subst q1
                      obtain ⟨g, o, rfl, -, -, s0, f0⟩ := r6.get (i := i) (by omega)
                      go_wp2_with fail
                      go_roundw
                      case rel => exact ⟨i + 1, _, rfl, by go_num, by omega, ST⟩
                      case measure => simp [intOf] <;> omega
                    · have x0 : ¬ (i : Int) < (l6.length : Int) := by omega
                      go_wp2_with fail
                      clear g0 g1 g2 g3 g4 g5 g6 g9 g10 g11 x0
                      go_loopw [3, 10] (fun av iv wr => ∃ (i : Nat) (A : Option Addr) (c : Nat) (L : List BV), av = .slice A L.length c ∧ iv = .int .i64 (i : Int) ∧ i ≤ m.elems ∧ L.length ≤ 200 + 301 * i ∧ Hid (BdSt w wr m x S A c L)) (fun _ iv _ => m.elems - (intOf iv).toNat)
                      case atStart => exact ⟨0, _, _, _, rfl, rfl, by omega, by first | omega | (simp; done) | (simp; omega), ST⟩
                      case round =>
                        clear ST
                        obtain ⟨i, A, c, L, rfl, rfl, hi, hLl, ST⟩ := hrel
                        obtain ⟨⟨g0, g1, g2, g3, g4, g5⟩, g6, -, -, g9, g10, g11⟩ := mdA_cells ST.out.md
                        rw [HE6.out] at g6
                        rw [HE11.out] at g11
                        by_cases hia : i < m.elems
                        · have x0 : (i : Int) < (m.elems : Int) := by omega
                          have x1 : (0 : Int) ≤ (i : Int) := by omega
                          obtain ⟨l9, e9, r9⟩ := ST.out.ml.el
                          obtain ⟨g, o, hAE, hSg, -, B0, k0, d0, B2, d3, li, ⟨f2, f4⟩, hbd, hit, -⟩ := r9.get (i := i) (by omega)
                          have HAE := Lib.hid hAE
                          rw [hAE] at g9
                          clear hAE
                          have HBD := Lib.hid hbd
                          have HIT := Lib.hid hit
                          clear hbd hit r9
                          by_cases hit3 : (300 : Int) < (li.length : Int)
                          · go_wp2_with fail
                            go_ret
                            exact ⟨LiteOut.no m, ST.out.bel⟩
                          go_upto_region 32 with (at_builtin; have haa := (Below.refl wr.heap.size wr).alloc (Nat.le_refl _) (.cells #[.slice B0 k0 d0] 77); have SA := ST.out.below haa; refine app_rs2 Tryz.underlying66 hi0 hz0 hz1 hz2 (by rfl) (by omega) encV_len encV_one _ rfl (.tmp 191) (.tmp 198) rfl (w.heap.size + 1) (.slice A L.length c) L.length L (by rfl) SA.own [(B0, k0, d0)] 1 1 _ rfl (by rfl) (one_body wr B0 k0 d0) (by omega) (by decide) (by have := SA.bel.size; have := SA.md.lt; omega) ?_; intro A' c' w6 own6 hg6 _; have POK := Lib.hid (SA.app HS.out rfl (fun v hv => by rw [List.mem_singleton.1 hv]; exact HBD.out.keep (Below.keep haa S) haa.size) own6 hg6))
                          have HKE := Lib.hid ((Below.keep haa S).trans (fun p u hs hc => hg6.cell hc (fun e => by have := (SA.own.lt _ e.symm).1; have := HS.out _ hs; omega)))
                          have hsz6 := Nat.le_trans haa.size hg6.size
                          refine at_code (F := fun W => Hid (BdSt w W m x S A' c' (L ++ [(B0, k0, d0)])) ∧ W.cell? ⟨g, o + i * 5 + 4, none⟩ = some (.slice B2 li.length d3) ∧ Hid (RdT W S B2 1 (ItAt S) li)) ⟨POK, HKE.out _ _ hSg f4, Lib.hid (RdT.keep (ItAt.keep HKE.out hsz6) hsz6 HIT.out)⟩ ?_
                          clear POK HKE hsz6 own6 hg6 SA haa ST HIT HBD f2 f4 g0 g1 g2 g3 g4 g5 g6 g9 g10 g11
                          rintro W6 ⟨ST, f4, HIT⟩
                          obtain ⟨⟨g0, g1, g2, g3, g4, g5⟩, g6, -, -, g9, g10, g11⟩ := mdA_cells ST.out.md
                          rw [HE6.out] at g6
                          rw [HE11.out] at g11
                          rw [HAE.out] at g9
                          have hL1 : (L ++ [(B0, k0, d0)]).length = L.length + 1 := by simp
                          generalize L ++ [(B0, k0, d0)] = L6 at ST hL1
                          rw [← hL1]
                          go_wp2_with (at_builtin; have SA := ST.out; refine app_rs2 Tryz.underlying66 hi0 hz0 hz1 hz2 (by rfl) (by omega) encV_len encV_one _ rfl (.tmp 200) (.tmp 206) rfl (w.heap.size + 1) (.slice A' L6.length c') L6.length L6 (by rfl) SA.own li li.length d3 B2 rfl (by rfl) (items_reads HIT.out) (by omega) (by decide) (by have := SA.bel.size; have := SA.md.lt; omega) ?_; intro A' c' w6 own6 hg6 _; have POK := Lib.hid (SA.app HS.out rfl (items_bodies HIT.out) own6 hg6))
                          go_roundw
                          case rel => exact ⟨i + 1, A', c', L6 ++ li, by rw [List.length_append, hL1], by go_num, by omega, by rw [List.length_append]; omega, POK⟩
                          case measure => simp [intOf] <;> omega
                        · have x0 : ¬ (i : Int) < (m.elems : Int) := by omega
                          go_wp2_with fail
                          clear g0 g1 g2 g3 g4 g5 g6 g9 g10 g11 x0
                          go_loopw [3, 4, 11] (fun av nv iv wr => ∃ (i : Nat) (z : Int) (A : Option Addr) (c : Nat) (L : List BV), av = .slice A L.length c ∧ nv = .int .i64 z ∧ iv = .int .i64 (i : Int) ∧ i ≤ m.datas ∧ L.length ≤ 30500 + i ∧ Hid (BdSt w wr m x S A c L)) (fun _ _ iv _ => m.datas - (intOf iv).toNat)
                          case atStart => exact ⟨0, _, _, _, _, rfl, rfl, rfl, by omega, by first | omega | (simp; done) | (simp; omega), ST⟩
                          case round =>
                            clear ST
                            obtain ⟨i, z, A, c, L, rfl, rfl, rfl, hi, hLl, ST⟩ := hrel
                            obtain ⟨⟨g0, g1, g2, g3, g4, g5⟩, g6, -, -, g9, g10, g11⟩ := mdA_cells ST.out.md
                            rw [HE6.out] at g6
                            rw [HE11.out] at g11
                            by_cases hia : i < m.datas
                            · have x0 : (i : Int) < (m.datas : Int) := by omega
                              have x1 : (0 : Int) ≤ (i : Int) := by omega
                              obtain ⟨l10, e10, r10⟩ := ST.out.ml.da
                              obtain ⟨g, o, hAE, -, -, B1, k2, d2, B3, k3, d3, ⟨f2, f3⟩, hbd⟩ := r10.get (i := i) (by omega)
                              rw [hAE] at g10
                              clear hAE
                              have HBD := Lib.hid hbd
                              clear hbd
                              go_upto_region 37 with fail
                              go_wp2_with (at_builtin; have haa := (Below.refl wr.heap.size wr).alloc (Nat.le_refl _) (.cells #[.slice B1 k2 d2] 77); have SA := ST.out.below haa; refine app_rs2 Tryz.underlying66 hi0 hz0 hz1 hz2 (by rfl) (by omega) encV_len encV_one _ rfl (.tmp 224) (.tmp 231) rfl (w.heap.size + 1) (.slice A L.length c) L.length L (by rfl) SA.own [(B1, k2, d2)] 1 1 _ rfl (by rfl) (one_body wr B1 k2 d2) (by omega) (by decide) (by have := SA.bel.size; have := SA.md.lt; omega) ?_; intro A' c' w6 own6 hg6 _; have POK := Lib.hid (SA.app HS.out rfl (fun v hv => by rw [List.mem_singleton.1 hv]; exact HBD.out.keep (Below.keep haa S) haa.size) own6 hg6))
                              go_roundw
                              case rel => exact ⟨i + 1, _, A', c', L ++ [(B1, k2, d2)], by rw [List.length_append]; rfl, rfl, by go_num, by omega, by rw [List.length_append]; simp; omega, POK⟩
                              case measure => simp [intOf] <;> omega
                            · have x0 : ¬ (i : Int) < (m.datas : Int) := by omega
                              go_wp2_with fail
                              clear g0 g1 g2 g3 g4 g5 g6 g9 g10 g11 x0
                              go_loopw [4, 12] (fun nv iv wr => ∃ (i : Nat) (z : Int), nv = .int .i64 z ∧ iv = .int .i64 (i : Int) ∧ i ≤ l11.length ∧ Hid (BdSt w wr m x S A c L)) (fun _ iv _ => l11.length - (intOf iv).toNat)
                              case atStart => exact ⟨0, _, rfl, rfl, by omega, ST⟩
                              case round =>
                                clear ST
                                obtain ⟨i, z, rfl, rfl, hi, ST⟩ := hrel
                                obtain ⟨⟨g0, g1, g2, g3, g4, g5⟩, g6, -, -, g9, g10, g11⟩ := mdA_cells ST.out.md
                                rw [HE6.out] at g6
                                rw [HE11.out] at g11
                                by_cases hia : i < l11.length
                                · have x0 : (i : Int) < (l11.length : Int) := by omega
                                  have x1 : (0 : Int) ≤ (i : Int) := by omega
                                  obtain ⟨A11x, c11x, l11x, e11x, r11⟩ := ST.out.ml.cu
                                  rw [HE11.out] at e11x
                                  injection e11x with q1 q2 q3
                                  subst q1
                                  obtain ⟨g, o, rfl, -, -, s1, B3, k3, d3, f1, f2⟩ := r11.get (i := i) (by omega)
                                  go_upto_region 41 with fail
                                  go_quiet (fail)
                                  go_wp2_with fail
                                  go_roundw
                                  case rel => exact ⟨i + 1, _, rfl, by go_num, by omega, Lib.hid (ST.out.below (below_drewN _ _))⟩
                                  case measure => simp [intOf] <;> omega
                                · have x0 : ¬ (i : Int) < (l11.length : Int) := by omega
                                  have hrows := rows_any L (by omega) _ A c 3000 wr ST.out.rd
                                  have hbel := ST.out.bel
                                  go_wp2_with (go_at_call 22; refine hrows.mono ?_; rintro _ _ ⟨⟨b, rfl⟩, rfl⟩)
                                  all_goals go_ret
                                  all_goals exact ⟨LiteOut.yes HLI.out _, hbel⟩
end Go.Proofs.YtadnfekogmjieaaGreatDoor
