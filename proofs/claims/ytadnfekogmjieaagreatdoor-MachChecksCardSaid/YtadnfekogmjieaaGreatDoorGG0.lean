/-
  Layer 51, the laws: how long a module's bodies are together (chapter 7's rows). (Printed by gen_lm2.py.)
  Layer 51, the laws: Light of a module. (Printed by gen_lm3.py.)
  Layer 51, the laws: no list of a module's types takes more than an address space. (Printed by gen_lm4.py.)
-/
import Derived.Test.YtadnfekogmjieaaGreatDoorGLM1
set_option linter.unusedVariables false
set_option linter.unusedSimpArgs false
namespace Go.Proofs.YtadnfekogmjieaaGreatDoor
open Go.RowKit
def SomeB (e : Ending) : Prop := ∃ b, e = .returned (.bool b)
theorem SomeB.of (b : Bool) : SomeB (.returned (.bool b)) := ⟨b, rfl⟩
set_option maxHeartbeats 8000000 in
set_option maxRecDepth 100000 in
theorem rows_any (l : List BV) (hl : l.length ≤ 1000000) (S : Nat → Prop) (A : Option Addr) (c : Nat) (most : Int) (w : World) (h : RdT w S A 1 (ItAt S) l) :
    Calls Tryz.prog 22 #[.slice A l.length c, .int .i64 most] w fun e w' => SomeB e ∧ w = w' := by
  go_enter Tryz.func22, Tryz.ntmps22
  go_wp2_with fail
  go_loopw [5, 6] (fun nv iv wr => ∃ (i : Nat) (z : Int), iv = .int .i64 (i : Int) ∧ i ≤ l.length ∧ nv = .int .i64 z ∧ wr = w) (fun _ iv _ => l.length - (intOf iv).toNat)
  case atStart => exact ⟨0, 0, rfl, by omega, rfl, rfl⟩
  case round =>
    obtain ⟨i, z, rfl, hi, rfl, rfl⟩ := hrel
    by_cases hia : i < l.length
    · have x0 : (i : Int) < (l.length : Int) := by omega
      have x1 : (0 : Int) ≤ (i : Int) := by omega
      obtain ⟨g, o, rfl, -, -, f0', hb⟩ := h.get hia
      obtain ⟨⟨B, n, d⟩, hv⟩ : ∃ v, l[i] = v := ⟨_, rfl⟩
      rw [hv] at f0' hb
      dsimp only at f0' hb
      have f0 : wr.cell? ⟨g, o + i, none⟩ = some (.slice B n d) := by rw [Nat.mul_one] at f0'; exact f0'
      obtain ⟨hn, u, hu, hrd⟩ := hb
      clear f0' hv
      obtain ⟨y, hy⟩ : ∃ y, IntKind.i64.wrap (z + (n : Int)) = y := ⟨_, rfl⟩
      by_cases hq : most < y
      · go_wp2_with fail
        go_ret
        first | exact ⟨SomeB.of _, rfl⟩ | exact SomeB.of _
      · go_wp2_with fail
        go_loopw [7] (fun kv wx => ∃ k : Nat, kv = .int .i64 (k : Int) ∧ k ≤ n ∧ wx = wr) (fun kv _ => n - (intOf kv).toNat)
        case atStart => exact ⟨0, rfl, by omega, rfl⟩
        case round =>
          obtain ⟨k, rfl, hk, rfl⟩ := hrel
          by_cases hka : k < n
          · have y0 : (k : Int) < (n : Int) := by omega
            have y1 : (0 : Int) ≤ (k : Int) := by omega
            obtain ⟨g2, o2, rfl, -, -, A7, n7, c7, A8, n8, c8, f7, f8⟩ := hrd.get (i := k) (by omega)
            by_cases h8 : (100 : Int) < (n8 : Int)
            · go_wp2_with fail
              go_ret
              first | exact ⟨SomeB.of _, rfl⟩ | exact SomeB.of _
            · by_cases h7 : (100 : Int) < (n7 : Int)
              · go_wp2_with fail
                go_ret
                first | exact ⟨SomeB.of _, rfl⟩ | exact SomeB.of _
              · go_wp2_with fail
                go_roundw
                case rel => exact ⟨k + 1, by go_num, by omega, by trivial⟩
                case measure => simp [intOf] <;> omega
          · obtain rfl : k = n := by omega
            have y0 : ¬ (k : Int) < (k : Int) := by omega
            go_wp2_with fail
            go_roundw
            case rel => exact ⟨i + 1, y, by go_num, by omega, by trivial, by trivial⟩
            case measure => simp [intOf] <;> omega
    · have x0 : ¬ (i : Int) < (l.length : Int) := by omega
      go_wp2_with fail
      go_ret
      first | exact ⟨SomeB.of _, rfl⟩ | exact SomeB.of _
end Go.Proofs.YtadnfekogmjieaaGreatDoor
set_option linter.unusedVariables false
set_option linter.unusedSimpArgs false
namespace Go.Proofs.YtadnfekogmjieaaGreatDoor
open Go.RowKit
open Mc (Pl Mi Mf Th Wt Im Md)
structure Mc.Md.Lite (m : Md) : Prop where
  ty : m.types.length ≤ 100
  im : m.imps.length ≤ 100
  fn : m.funcs.length ≤ 100
  tb : m.tables.length ≤ 100
  mm : m.mems ≤ 100
  gl : m.globals.length ≤ 100
  el : m.elems ≤ 100
  da : m.datas ≤ 100
def LiteOut (m : Md) (e : Ending) : Prop := ∃ b, e = .returned (.bool b) ∧ (b = true → m.Lite)
theorem LiteOut.no (m : Md) : LiteOut m (.returned (.bool false)) := ⟨false, rfl, fun h => by cases h⟩
theorem LiteOut.yes {m : Md} (h : m.Lite) (b : Bool) : LiteOut m (.returned (.bool b)) := ⟨b, rfl, fun _ => h⟩
def encV (v : BV) : List Value := [.slice v.1 v.2.1 v.2.2]
theorem encV_len (v : BV) : (encV v).length = 1 := rfl
theorem encV_one (v : BV) : ∀ u ∈ encV v, u.oneCell' = true := by simp [encV, Value.oneCell']
theorem info_body : (Tryz.prog.info? 77).map (fun i => (i.zero, i.size, i.bytes)) = some (some (.slice none 0 0), 1, 24) := by kernel_rfl
theorem one_body (W : World) (A : Option Addr) (n c : Nat) : Reads (W.alloc (.cells #[.slice A n c] 77)) (W.alloc (.cells #[.slice A n c] 77)).heap.size 1 (some ⟨W.heap.size, 0, none⟩) 1 (([(A, n, c)] : List BV).flatMap encV) := block_reads (cs := #[.slice A n c]) rfl (heap_alloc_new W _)
structure BdSt (w W : World) (m : Md) (x : MX) (S : Nat → Prop) (A : Option Addr) (c : Nat) (L : List BV) : Prop where
  bel : Below w.heap.size w W
  md : Var W w.heap.size (mdA m x) 33
  own : W.ownsRow (w.heap.size + 1) 77 1 (.slice A L.length c) L.length (L.flatMap encV)
  rows : ∀ v ∈ L, BdRd S W v.1 v.2.1
  ml : MdL S W m x
section
variable {w W W' : World} {m : Md} {x : MX} {S : Nat → Prop} {A : Option Addr} {c : Nat} {L : List BV}
theorem BdSt.below (h : BdSt w W m x S A c L) (hb : Below W.heap.size W W') : BdSt w W' m x S A c L :=
  ⟨h.bel.trans (hb.mono h.bel.size), var_keep h.md hb, own_belowW h.own hb, fun v hv => (h.rows v hv).keep (Below.keep hb S) hb.size, h.ml.on hb⟩
theorem BdSt.app (h : BdSt w W m x S A c L) (hS : ∀ g, S g → g < w.heap.size) {l : List BV} {M : Nat} (hM : l.length = M) (hl : ∀ v ∈ l, BdRd S W v.1 v.2.1) {A' : Option Addr} {c' : Nat} (own : W'.ownsRow (w.heap.size + 1) 77 1 (.slice A' (L.length + M) c') (L.length + M) ((L ++ l).flatMap encV)) (hg : W.grownBy W' (Value.slice A L.length c).ownBlock) : BdSt w W' m x S A' c' (L ++ l) := by
  subst hM
  have hlo : ∀ j, (Value.slice A L.length c).ownBlock = some j → w.heap.size + 1 ≤ j := fun j hj => (h.own.lt j hj).1
  have hk : Keep S W W' := fun p u hs hc => hg.cell hc (fun e => by have := hlo _ e.symm; have := hS _ hs; omega)
  refine ⟨h.bel.grown hg h.bel.size (fun j hj => by have := hlo j hj; omega), var_grown h.md h.own (by decide) hg, by rw [List.length_append]; exact own, fun v hv => ?_, h.ml.keep hk hg.size⟩
  rcases List.mem_append.1 hv with hv | hv
  · exact (h.rows v hv).keep hk hg.size
  · exact (hl v hv).keep hk hg.size
theorem BdSt.rd (h : BdSt w W m x S A c L) : RdT W (fun g => S g ∨ w.heap.size < g) A 1 (ItAt (fun g => S g ∨ w.heap.size < g)) L := fun hne => by
  obtain ⟨g, o, e, hb, hc⟩ := own_rds encV_len (by omega) h.own hne
  refine ⟨g, o, e, .inr (by subst e; have := (h.own.lt g rfl).1; omega), hb, fun i hi => ⟨?_, (h.rows _ (List.getElem_mem hi)).mono fun _ _ hg => .inl hg⟩⟩
  have := hc i hi 0 _ rfl
  rwa [Nat.add_zero] at this
theorem BdSt.new (h : MdL S w m x) : BdSt w (w.alloc (.cells (mdA m x) 33)) m x S none 0 [] := by
  have hb := (Below.refl w.heap.size w).alloc (Nat.le_refl _) (.cells (mdA m x) 33)
  exact ⟨hb, Var.new _ _ _, World.ownsRow_nil _ _ _ _, by simp, h.on hb⟩
end
theorem items_reads {W : World} {S : Nat → Prop} {B : Option Addr} {l : List BV} (h : RdT W S B 1 (ItAt S) l) : Reads W W.heap.size 1 B l.length (l.flatMap encV) := by
  refine RdS.reads encV_len fun hl => ?_
  obtain ⟨g, o, e, -, hb, hc⟩ := h hl
  refine ⟨g, o, e, hb, fun i hi j v hj => ?_⟩
  have h1 := (hc i hi).1
  have hj0 : j = 0 := by
    rcases Nat.lt_or_ge j 1 with h2 | h2
    · omega
    · rw [List.getElem?_eq_none (by rw [encV_len]; exact h2)] at hj; cases hj
  subst hj0
  rw [Nat.add_zero]
  have : v = .slice l[i].1 l[i].2.1 l[i].2.2 := by simpa [encV] using hj.symm
  rw [this]; exact h1
theorem items_bodies {W : World} {S : Nat → Prop} {B : Option Addr} {l : List BV} (h : RdT W S B 1 (ItAt S) l) : ∀ v ∈ l, BdRd S W v.1 v.2.1 := fun v hv => by
  obtain ⟨i, hi, e⟩ := List.mem_iff_getElem.1 hv
  obtain ⟨g, o, -, -, -, hc⟩ := h.get hi
  rw [e] at hc
  exact hc.2
set_option maxHeartbeats 16000000 in
set_option maxRecDepth 100000 in
theorem mdlight_any (m : Md) (x : MX) (ho : x.One) (S : Nat → Prop) (w : World) (hS : ∀ g, S g → g < w.heap.size) (h : MdL S w m x) :
    Calls Tryz.prog 9 #[.agg (mdA m x)] w fun e w' => LiteOut m e ∧ Below w.heap.size w w' := by
  obtain ⟨i0, hi0, hz0, hz1, hz2⟩ := info_parts info_body
  have HST := Lib.hid (BdSt.new h)
  have HS := Lib.hid hS
  obtain ⟨A6, c6, l6, e6, -⟩ := h.ex
  obtain ⟨A11, c11, l11, e11, -⟩ := h.cu
  obtain ⟨⟨A6', n6', c6', e6'⟩, ⟨b7, e7⟩, ⟨z8, e8⟩, A11', n11', c11', e11'⟩ := ho
  clear e6' e11' hS h
  have HE6 := Lib.hid e6
  have HE11 := Lib.hid e11
  have HLT := Lib.hid (fun (a1 : m.types.length ≤ 100) (a2 : m.imps.length ≤ 100) (a3 : m.funcs.length ≤ 100) (a4 : m.tables.length ≤ 100) (a5 : m.mems ≤ 100) (a6 : m.globals.length ≤ 100) (a7 : m.elems ≤ 100) (a8 : m.datas ≤ 100) => (⟨a1, a2, a3, a4, a5, a6, a7, a8⟩ : m.Lite))
  clear e6 e7 e8 e11
  go_enter Tryz.func9, Tryz.ntmps9
  go_upto_region 1 with fail
  refine at_code (F := fun W => Hid (BdSt w W m x S none 0 [])) HST ?_
  clear HST
  intro W ST
  obtain ⟨⟨g0, g1, g2, g3, g4, g5⟩, g6, -, -, g9, g10, g11⟩ := mdA_cells ST.out.md
  rw [HE6.out] at g6
  rw [HE11.out] at g11
  by_cases p0 : (100 : Int) < (m.types.length : Int)
  · go_wp2_with fail
    go_ret
    exact ⟨LiteOut.no m, ST.out.bel⟩
  by_cases p1 : (100 : Int) < (m.imps.length : Int)
  · go_wp2_with fail
    go_ret
    exact ⟨LiteOut.no m, ST.out.bel⟩
  by_cases p2 : (100 : Int) < (m.funcs.length : Int)
  · go_wp2_with fail
    go_ret
    exact ⟨LiteOut.no m, ST.out.bel⟩
  by_cases p3 : (100 : Int) < (m.tables.length : Int)
  · go_wp2_with fail
    go_ret
    exact ⟨LiteOut.no m, ST.out.bel⟩
  by_cases p4 : (100 : Int) < (m.mems : Int)
  · go_wp2_with fail
    go_ret
    exact ⟨LiteOut.no m, ST.out.bel⟩
  by_cases p5 : (100 : Int) < (m.globals.length : Int)
  · go_wp2_with fail
    go_ret
    exact ⟨LiteOut.no m, ST.out.bel⟩
  by_cases p6 : (100 : Int) < (l6.length : Int)
  · go_wp2_with fail
    go_ret
    exact ⟨LiteOut.no m, ST.out.bel⟩
  by_cases p7 : (100 : Int) < (m.elems : Int)
  · go_wp2_with fail
    go_ret
    exact ⟨LiteOut.no m, ST.out.bel⟩
  by_cases p8 : (100 : Int) < (m.datas : Int)
  · go_wp2_with fail
    go_ret
    exact ⟨LiteOut.no m, ST.out.bel⟩
  by_cases p9 : (100 : Int) < (l11.length : Int)
  · go_wp2_with fail
    go_ret
    exact ⟨LiteOut.no m, ST.out.bel⟩
  have HLI := Lib.hid (HLT.out (by omega) (by omega) (by omega) (by omega) (by omega) (by omega) (by omega) (by omega))
  clear HLT
  go_wp2_with fail
  clear g0 g1 g2 g3 g4 g5 g6 g9 g10 g11
  go_loopw [4, 5] (fun nv iv wr => ∃ (i : Nat) (z : Int), nv = .int .i64 z ∧ iv = .int .i64 (i : Int) ∧ i ≤ m.types.length ∧ Hid (BdSt w wr m x S none 0 [])) (fun _ iv _ => m.types.length - (intOf iv).toNat)
  case atStart => exact ⟨0, _, rfl, rfl, by omega, ST⟩
  case round =>
    clear ST
    obtain ⟨i, z, rfl, rfl, hi, ST⟩ := hrel
    obtain ⟨⟨g0, g1, g2, g3, g4, g5⟩, g6, -, -, g9, g10, g11⟩ := mdA_cells ST.out.md
    rw [HE6.out] at g6
    rw [HE11.out] at g11
    by_cases hia : i < m.types.length
    · have x0 : (i : Int) < (m.types.length : Int) := by omega
      have x1 : (0 : Int) ≤ (i : Int) := by omega
      obtain ⟨g, o, hAE, -, -, A1, k1, B1, k2, f0, f1⟩ := ST.out.ml.ty.get hia
      rw [hAE] at g0
      clear hAE
      go_upto_region 8 with fail
      go_quiet (fail)
      go_wp2_with fail
      go_roundw
      case rel => exact ⟨i + 1, _, rfl, by go_num, by omega, Lib.hid (ST.out.below (below_drewN _ _))⟩
      case measure => simp [intOf] <;> omega
    · have x0 : ¬ (i : Int) < (m.types.length : Int) := by omega
      go_wp2_with fail
      clear g0 g1 g2 g3 g4 g5 g6 g9 g10 g11 x0
      go_loopw [4, 6] (fun nv iv wr => ∃ (i : Nat) (z : Int), nv = .int .i64 z ∧ iv = .int .i64 (i : Int) ∧ i ≤ m.imps.length ∧ Hid (BdSt w wr m x S none 0 [])) (fun _ iv _ => m.imps.length - (intOf iv).toNat)
      case atStart => exact ⟨0, _, rfl, rfl, by omega, ST⟩
      case round =>
        clear ST
        obtain ⟨i, z, rfl, rfl, hi, ST⟩ := hrel
        obtain ⟨⟨g0, g1, g2, g3, g4, g5⟩, g6, -, -, g9, g10, g11⟩ := mdA_cells ST.out.md
        rw [HE6.out] at g6
        rw [HE11.out] at g11
        by_cases hia : i < m.imps.length
        · have x0 : (i : Int) < (m.imps.length : Int) := by omega
          have x1 : (0 : Int) ≤ (i : Int) := by omega
          obtain ⟨g, o, hAE, -, -, u0, u1, l0, l1, l2, n0, n1, n2, hat⟩ := ST.out.ml.im.get hia
          rw [hAE] at g1
          clear hAE
          have f0 := hat 0 _ rfl
          have f1 := hat 1 _ rfl
          rw [Nat.add_zero] at f0
          clear hat
          go_upto_region 12 with fail
          go_quiet (fail)
          go_wp2_with fail
          go_roundw
          case rel => exact ⟨i + 1, _, rfl, by go_num, by omega, Lib.hid (ST.out.below (below_drewN _ _))⟩
          case measure => simp [intOf] <;> omega
        · have x0 : ¬ (i : Int) < (m.imps.length : Int) := by omega
          go_wp2_with fail
          clear g0 g1 g2 g3 g4 g5 g6 g9 g10 g11 x0
          go_loopw [3, 4, 7] (fun av nv iv wr => ∃ (i : Nat) (z : Int) (A : Option Addr) (c : Nat) (L : List BV), av = .slice A L.length c ∧ nv = .int .i64 z ∧ iv = .int .i64 (i : Int) ∧ i ≤ m.funcs.length ∧ L.length ≤ i ∧ Hid (BdSt w wr m x S A c L)) (fun _ _ iv _ => m.funcs.length - (intOf iv).toNat)
          case atStart => exact ⟨0, _, none, 0, [], rfl, rfl, rfl, by omega, by first | omega | (simp; done) | (simp; omega), ST⟩
          case round =>
            clear ST
            obtain ⟨i, z, A, c, L, rfl, rfl, rfl, hi, hLl, ST⟩ := hrel
            obtain ⟨⟨g0, g1, g2, g3, g4, g5⟩, g6, -, -, g9, g10, g11⟩ := mdA_cells ST.out.md
            rw [HE6.out] at g6
            rw [HE11.out] at g11
            by_cases hia : i < m.funcs.length
            · have x0 : (i : Int) < (m.funcs.length : Int) := by omega
              have x1 : (0 : Int) ≤ (i : Int) := by omega
              obtain ⟨g, o, hAE, -, -, A1, k1, d1, B1, k2, d2, ⟨f0, f1, f2⟩, hbd⟩ := ST.out.ml.fn.get hia
              rw [hAE] at g2
              clear hAE
              have HBD := Lib.hid hbd
              clear hbd
              go_upto_region 17 with fail
              go_wp2_with (at_builtin; have haa := (Below.refl wr.heap.size wr).alloc (Nat.le_refl _) (.cells #[.slice B1 k2 d2] 77); have SA := ST.out.below haa; refine app_rs2 Tryz.underlying66 hi0 hz0 hz1 hz2 (by rfl) (by omega) encV_len encV_one _ rfl (.tmp 135) (.tmp 142) rfl (w.heap.size + 1) (.slice A L.length c) L.length L (by rfl) SA.own [(B1, k2, d2)] 1 1 _ rfl (by rfl) (one_body wr B1 k2 d2) (by omega) (by decide) (by have := SA.bel.size; have := SA.md.lt; omega) ?_; intro A' c' w6 own6 hg6 _; have POK := Lib.hid (SA.app HS.out rfl (fun v hv => by rw [List.mem_singleton.1 hv]; exact HBD.out.keep (Below.keep haa S) haa.size) own6 hg6))
              go_roundw
              case rel => exact ⟨i + 1, _, A', c', L ++ [(B1, k2, d2)], by rw [List.length_append]; rfl, rfl, by go_num, by omega, by rw [List.length_append]; simp; omega, POK⟩
              case measure => simp [intOf] <;> omega
            · have x0 : ¬ (i : Int) < (m.funcs.length : Int) := by omega
              go_wp2_with fail
              clear g0 g1 g2 g3 g4 g5 g6 g9 g10 g11 x0
              go_loopw [3, 8] (fun av iv wr => ∃ (i : Nat) (A : Option Addr) (c : Nat) (L : List BV), av = .slice A L.length c ∧ iv = .int .i64 (i : Int) ∧ i ≤ m.globals.length ∧ L.length ≤ 100 + i ∧ Hid (BdSt w wr m x S A c L)) (fun _ iv _ => m.globals.length - (intOf iv).toNat)
              case atStart => exact ⟨0, _, _, _, rfl, rfl, by omega, by first | omega | (simp; done) | (simp; omega), ST⟩
              case round =>
                clear ST
                obtain ⟨i, A, c, L, rfl, rfl, hi, hLl, ST⟩ := hrel
                obtain ⟨⟨g0, g1, g2, g3, g4, g5⟩, g6, -, -, g9, g10, g11⟩ := mdA_cells ST.out.md
                rw [HE6.out] at g6
                rw [HE11.out] at g11
                by_cases hia : i < m.globals.length
                · have x0 : (i : Int) < (m.globals.length : Int) := by omega
                  have x1 : (0 : Int) ≤ (i : Int) := by omega
                  obtain ⟨g, o, hAE, -, -, B1, k2, d2, ⟨f0, f1, f2⟩, hbd⟩ := ST.out.ml.gl.get hia
                  rw [hAE] at g5
                  clear hAE
                  have HBD := Lib.hid hbd
                  clear hbd
                  go_wp2_with (at_builtin; have haa := (Below.refl wr.heap.size wr).alloc (Nat.le_refl _) (.cells #[.slice B1 k2 d2] 77); have SA := ST.out.below haa; refine app_rs2 Tryz.underlying66 hi0 hz0 hz1 hz2 (by rfl) (by omega) encV_len encV_one _ rfl (.tmp 151) (.tmp 158) rfl (w.heap.size + 1) (.slice A L.length c) L.length L (by rfl) SA.own [(B1, k2, d2)] 1 1 _ rfl (by rfl) (one_body wr B1 k2 d2) (by omega) (by decide) (by have := SA.bel.size; have := SA.md.lt; omega) ?_; intro A' c' w6 own6 hg6 _; have POK := Lib.hid (SA.app HS.out rfl (fun v hv => by rw [List.mem_singleton.1 hv]; exact HBD.out.keep (Below.keep haa S) haa.size) own6 hg6))
                  go_roundw
                  case rel => exact ⟨i + 1, A', c', L ++ [(B1, k2, d2)], by rw [List.length_append]; rfl, by go_num, by omega, by rw [List.length_append]; simp; omega, POK⟩
                  case measure => simp [intOf] <;> omega
                · have x0 : ¬ (i : Int) < (m.globals.length : Int) := by omega
                  go_wp2_with fail
                  clear g0 g1 g2 g3 g4 g5 g6 g9 g10 g11 x0
                  go_loopw [4, 9] (fun nv iv wr => ∃ (i : Nat) (z : Int), nv = .int .i64 z ∧ iv = .int .i64 (i : Int) ∧ i ≤ l6.length ∧ Hid (BdSt w wr m x S A c L)) (fun _ iv _ => l6.length - (intOf iv).toNat)
                  case atStart => exact ⟨0, _, rfl, rfl, by omega, ST⟩
                  case round =>
                    clear ST
                    obtain ⟨i, z, rfl, rfl, hi, ST⟩ := hrel
                    obtain ⟨⟨g0, g1, g2, g3, g4, g5⟩, g6, -, -, g9, g10, g11⟩ := mdA_cells ST.out.md
                    rw [HE6.out] at g6
                    rw [HE11.out] at g11
                    by_cases hia : i < l6.length
                    · have x0 : (i : Int) < (l6.length : Int) := by omega
                      have x1 : (0 : Int) ≤ (i : Int) := by omega
                      obtain ⟨A6x, c6x, l6x, e6x, r6⟩ := ST.out.ml.ex
                      rw [HE6.out] at e6x
                      injection e6x with q1 q2 q3
                      subst q1
                      obtain ⟨g, o, rfl, -, -, s0, f0⟩ := r6.get (i := i) (by omega)
                      go_wp2_with fail
                      go_roundw
                      case rel => exact ⟨i + 1, _, rfl, by go_num, by omega, ST⟩
                      case measure => simp [intOf] <;> omega
                    · have x0 : ¬ (i : Int) < (l6.length : Int) := by omega
                      go_wp2_with fail
                      clear g0 g1 g2 g3 g4 g5 g6 g9 g10 g11 x0
                      go_loopw [3, 10] (fun av iv wr => ∃ (i : Nat) (A : Option Addr) (c : Nat) (L : List BV), av = .slice A L.length c ∧ iv = .int .i64 (i : Int) ∧ i ≤ m.elems ∧ L.length ≤ 200 + 301 * i ∧ Hid (BdSt w wr m x S A c L)) (fun _ iv _ => m.elems - (intOf iv).toNat)
                      case atStart => exact ⟨0, _, _, _, rfl, rfl, by omega, by first | omega | (simp; done) | (simp; omega), ST⟩
                      case round =>
                        clear ST
                        obtain ⟨i, A, c, L, rfl, rfl, hi, hLl, ST⟩ := hrel
                        obtain ⟨⟨g0, g1, g2, g3, g4, g5⟩, g6, -, -, g9, g10, g11⟩ := mdA_cells ST.out.md
                        rw [HE6.out] at g6
                        rw [HE11.out] at g11
                        by_cases hia : i < m.elems
                        · have x0 : (i : Int) < (m.elems : Int) := by omega
                          have x1 : (0 : Int) ≤ (i : Int) := by omega
                          obtain ⟨l9, e9, r9⟩ := ST.out.ml.el
                          obtain ⟨g, o, hAE, hSg, -, B0, k0, d0, B2, d3, li, ⟨f2, f4⟩, hbd, hit, -⟩ := r9.get (i := i) (by omega)
                          have HAE := Lib.hid hAE
                          rw [hAE] at g9
                          clear hAE
                          have HBD := Lib.hid hbd
                          have HIT := Lib.hid hit
                          clear hbd hit r9
                          by_cases hit3 : (300 : Int) < (li.length : Int)
                          · go_wp2_with fail
                            go_ret
                            exact ⟨LiteOut.no m, ST.out.bel⟩
                          go_upto_region 32 with (at_builtin; have haa := (Below.refl wr.heap.size wr).alloc (Nat.le_refl _) (.cells #[.slice B0 k0 d0] 77); have SA := ST.out.below haa; refine app_rs2 Tryz.underlying66 hi0 hz0 hz1 hz2 (by rfl) (by omega) encV_len encV_one _ rfl (.tmp 191) (.tmp 198) rfl (w.heap.size + 1) (.slice A L.length c) L.length L (by rfl) SA.own [(B0, k0, d0)] 1 1 _ rfl (by rfl) (one_body wr B0 k0 d0) (by omega) (by decide) (by have := SA.bel.size; have := SA.md.lt; omega) ?_; intro A' c' w6 own6 hg6 _; have POK := Lib.hid (SA.app HS.out rfl (fun v hv => by rw [List.mem_singleton.1 hv]; exact HBD.out.keep (Below.keep haa S) haa.size) own6 hg6))
                          have HKE := Lib.hid ((Below.keep haa S).trans (fun p u hs hc => hg6.cell hc (fun e => by have := (SA.own.lt _ e.symm).1; have := HS.out _ hs; omega)))
                          have hsz6 := Nat.le_trans haa.size hg6.size
                          refine at_code (F := fun W => Hid (BdSt w W m x S A' c' (L ++ [(B0, k0, d0)])) ∧ W.cell? ⟨g, o + i * 5 + 4, none⟩ = some (.slice B2 li.length d3) ∧ Hid (RdT W S B2 1 (ItAt S) li)) ⟨POK, HKE.out _ _ hSg f4, Lib.hid (RdT.keep (ItAt.keep HKE.out hsz6) hsz6 HIT.out)⟩ ?_
                          clear POK HKE hsz6 own6 hg6 SA haa ST HIT HBD f2 f4 g0 g1 g2 g3 g4 g5 g6 g9 g10 g11
                          rintro W6 ⟨ST, f4, HIT⟩
                          obtain ⟨⟨g0, g1, g2, g3, g4, g5⟩, g6, -, -, g9, g10, g11⟩ := mdA_cells ST.out.md
                          rw [HE6.out] at g6
                          rw [HE11.out] at g11
                          rw [HAE.out] at g9
                          have hL1 : (L ++ [(B0, k0, d0)]).length = L.length + 1 := by simp
                          generalize L ++ [(B0, k0, d0)] = L6 at ST hL1
                          rw [← hL1]
                          go_wp2_with (at_builtin; have SA := ST.out; refine app_rs2 Tryz.underlying66 hi0 hz0 hz1 hz2 (by rfl) (by omega) encV_len encV_one _ rfl (.tmp 200) (.tmp 206) rfl (w.heap.size + 1) (.slice A' L6.length c') L6.length L6 (by rfl) SA.own li li.length d3 B2 rfl (by rfl) (items_reads HIT.out) (by omega) (by decide) (by have := SA.bel.size; have := SA.md.lt; omega) ?_; intro A' c' w6 own6 hg6 _; have POK := Lib.hid (SA.app HS.out rfl (items_bodies HIT.out) own6 hg6))
                          go_roundw
                          case rel => exact ⟨i + 1, A', c', L6 ++ li, by rw [List.length_append, hL1], by go_num, by omega, by rw [List.length_append]; omega, POK⟩
                          case measure => simp [intOf] <;> omega
                        · have x0 : ¬ (i : Int) < (m.elems : Int) := by omega
                          go_wp2_with fail
                          clear g0 g1 g2 g3 g4 g5 g6 g9 g10 g11 x0
                          go_loopw [3, 4, 11] (fun av nv iv wr => ∃ (i : Nat) (z : Int) (A : Option Addr) (c : Nat) (L : List BV), av = .slice A L.length c ∧ nv = .int .i64 z ∧ iv = .int .i64 (i : Int) ∧ i ≤ m.datas ∧ L.length ≤ 30500 + i ∧ Hid (BdSt w wr m x S A c L)) (fun _ _ iv _ => m.datas - (intOf iv).toNat)
                          case atStart => exact ⟨0, _, _, _, _, rfl, rfl, rfl, by omega, by first | omega | (simp; done) | (simp; omega), ST⟩
                          case round =>
                            clear ST
                            obtain ⟨i, z, A, c, L, rfl, rfl, rfl, hi, hLl, ST⟩ := hrel
                            obtain ⟨⟨g0, g1, g2, g3, g4, g5⟩, g6, -, -, g9, g10, g11⟩ := mdA_cells ST.out.md
                            rw [HE6.out] at g6
                            rw [HE11.out] at g11
                            by_cases hia : i < m.datas
                            · have x0 : (i : Int) < (m.datas : Int) := by omega
                              have x1 : (0 : Int) ≤ (i : Int) := by omega
                              obtain ⟨l10, e10, r10⟩ := ST.out.ml.da
                              obtain ⟨g, o, hAE, -, -, B1, k2, d2, B3, k3, d3, ⟨f2, f3⟩, hbd⟩ := r10.get (i := i) (by omega)
                              rw [hAE] at g10
                              clear hAE
                              have HBD := Lib.hid hbd
                              clear hbd
                              go_upto_region 37 with fail
                              go_wp2_with (at_builtin; have haa := (Below.refl wr.heap.size wr).alloc (Nat.le_refl _) (.cells #[.slice B1 k2 d2] 77); have SA := ST.out.below haa; refine app_rs2 Tryz.underlying66 hi0 hz0 hz1 hz2 (by rfl) (by omega) encV_len encV_one _ rfl (.tmp 224) (.tmp 231) rfl (w.heap.size + 1) (.slice A L.length c) L.length L (by rfl) SA.own [(B1, k2, d2)] 1 1 _ rfl (by rfl) (one_body wr B1 k2 d2) (by omega) (by decide) (by have := SA.bel.size; have := SA.md.lt; omega) ?_; intro A' c' w6 own6 hg6 _; have POK := Lib.hid (SA.app HS.out rfl (fun v hv => by rw [List.mem_singleton.1 hv]; exact HBD.out.keep (Below.keep haa S) haa.size) own6 hg6))
                              go_roundw
                              case rel => exact ⟨i + 1, _, A', c', L ++ [(B1, k2, d2)], by rw [List.length_append]; rfl, rfl, by go_num, by omega, by rw [List.length_append]; simp; omega, POK⟩
                              case measure => simp [intOf] <;> omega
                            · have x0 : ¬ (i : Int) < (m.datas : Int) := by omega
                              go_wp2_with fail
                              clear g0 g1 g2 g3 g4 g5 g6 g9 g10 g11 x0
                              go_loopw [4, 12] (fun nv iv wr => ∃ (i : Nat) (z : Int), nv = .int .i64 z ∧ iv = .int .i64 (i : Int) ∧ i ≤ l11.length ∧ Hid (BdSt w wr m x S A c L)) (fun _ iv _ => l11.length - (intOf iv).toNat)
                              case atStart => exact ⟨0, _, rfl, rfl, by omega, ST⟩
                              case round =>
                                clear ST
                                obtain ⟨i, z, rfl, rfl, hi, ST⟩ := hrel
                                obtain ⟨⟨g0, g1, g2, g3, g4, g5⟩, g6, -, -, g9, g10, g11⟩ := mdA_cells ST.out.md
                                rw [HE6.out] at g6
                                rw [HE11.out] at g11
                                by_cases hia : i < l11.length
                                · have x0 : (i : Int) < (l11.length : Int) := by omega
                                  have x1 : (0 : Int) ≤ (i : Int) := by omega
                                  obtain ⟨A11x, c11x, l11x, e11x, r11⟩ := ST.out.ml.cu
                                  rw [HE11.out] at e11x
                                  injection e11x with q1 q2 q3
                                  subst q1
                                  obtain ⟨g, o, rfl, -, -, s1, B3, k3, d3, f1, f2⟩ := r11.get (i := i) (by omega)
                                  go_upto_region 41 with fail
                                  go_quiet (fail)
                                  go_wp2_with fail
                                  go_roundw
                                  case rel => exact ⟨i + 1, _, rfl, by go_num, by omega, Lib.hid (ST.out.below (below_drewN _ _))⟩
                                  case measure => simp [intOf] <;> omega
                                · have x0 : ¬ (i : Int) < (l11.length : Int) := by omega
                                  have hrows := rows_any L (by omega) _ A c 3000 wr ST.out.rd
                                  have hbel := ST.out.bel
                                  go_wp2_with (go_at_call 22; refine hrows.mono ?_; rintro _ _ ⟨⟨b, rfl⟩, rfl⟩)
                                  all_goals go_ret
                                  all_goals exact ⟨LiteOut.yes HLI.out _, hbel⟩
end Go.Proofs.YtadnfekogmjieaaGreatDoor
set_option linter.unusedVariables false
set_option linter.unusedSimpArgs false
namespace Go.Proofs.YtadnfekogmjieaaGreatDoor
open Go.ChangeShapes Go.WideShapes Go.Deep Go.RowKit
open Mc (Pl Mi Mf Th Wt Im Md)
def WOk {H : Type} (t : TypeId) (d : DataW H) : Prop := ∀ n ∈ d.weights Tryz.prog t, n ≤ reachBytes
theorem weights_all {H : Type} {e : TypeId} : ∀ (l : List (DataW H)), (∀ n ∈ DataW.weightsAll Tryz.prog e l, n ≤ reachBytes) → ∀ d ∈ l, WOk e d
  | [], _, d, h => by cases h
  | x :: l, hw, d, h => by
    rw [DataW.weightsAll] at hw
    rcases List.mem_cons.1 h with rfl | h
    · exact fun n hn => hw n (List.mem_append_left _ hn)
    · exact weights_all l (fun n hn => hw n (List.mem_append_right _ hn)) d h
section
variable {H : Type} {enc : TypeId × Value → H} {w : World} {base : Nat} {held : Bool} {spare : Nat → Bool}
theorem open_slice_w {α : Type} {T e : TypeId} {k by_ : Nat} (hT : Tryz.prog.underlying T = some (.slice e)) (hk : Tryz.prog.cellsOf e = k) (hk0 : 0 < k) (hby : Tryz.prog.bytesOf e = by_) (h8 : 8 ≤ by_)
    (R : World → Nat → Nat → α → Prop) (Q : α → Prop) {fuel : Nat}
    (hel : ∀ (m : Nat) (cs : List Value) (y : DataW H × List MemPlace), m < fuel → DataW.trod enc Tryz.prog w base spare held m e cs = some y → cs.length = k → ∀ g o, (∀ j, j < k → w.cell? ⟨g, o + j, none⟩ = cs[j]?) → ∃ a : α, R w g o a ∧ (WOk e y.1 → Q a))
    {cs : List Value} {x : DataW H × List MemPlace} (h : DataW.trod enc Tryz.prog w base spare held fuel T cs = some x) :
    ∃ (A : Option Addr) (c : Nat) (l : List α), cs = [.slice A l.length c] ∧ RdT w (fun g => g < w.heap.size) A k R l ∧ (WOk T x.1 → l.length ≤ 17592186044416 ∧ ∀ a ∈ l, Q a) := by
  rcases DataW.trod_slice hT h with ⟨rfl, rfl⟩ | ⟨a, len, cap, elems, rest, n, rfl, rfl, rfl, hb, hl, hm, hlen, hx, _, _⟩
  · exact ⟨none, 0, [], rfl, RdT.nil_, fun _ => ⟨by simp, by simp⟩⟩
  · rw [hk] at hx
    rcases Nat.eq_zero_or_pos len with h0 | h0
    · subst h0
      exact ⟨some a, cap, [], rfl, RdT.nil_, fun _ => ⟨by simp, by simp⟩⟩
    · have hsp : ∃ g o, a = ⟨g, o, none⟩ ∧ g < w.heap.size := by
        have hx0 := hx 0 h0
        rw [List.getElem?_eq_getElem (by omega)] at hx0
        obtain ⟨cs', hc, ht⟩ := Option.bind_eq_some_iff.1 hx0
        obtain ⟨_, hcl, hat⟩ := World.cells?_some hc
        have z0 := hat 0 hk0
        rw [List.getElem?_eq_getElem (by omega), Nat.zero_mul] at z0
        have hz : (a.add 0).add 0 = a := by unfold Addr.add; simp
        rw [hz] at z0
        obtain ⟨h1, h2⟩ := spot_of_cell z0
        obtain ⟨g, o, sp⟩ := a
        dsimp only at h1 h2
        subst h1
        exact ⟨g, o, rfl, h2⟩
      obtain ⟨g, o, rfl, hg⟩ := hsp
      have hE : ∀ i, i < len → ∃ b : α, R w g (o + i * k) b ∧ ∀ (hi : i < elems.length), WOk e elems[i].1 → Q b := by
        intro i hi
        have hxi := hx i hi
        have hie : i < elems.length := by omega
        rw [List.getElem?_eq_getElem hie] at hxi
        obtain ⟨cs', hc, ht⟩ := Option.bind_eq_some_iff.1 hxi
        obtain ⟨_, hcl, hat⟩ := World.cells?_some hc
        rw [add_plain] at hat
        obtain ⟨b, hb1, hb2⟩ := hel n cs' elems[i] (by omega) ht hcl g (o + i * k) (fun j hj => by have := hat j hj; rwa [add_plain] at this)
        exact ⟨b, hb1, fun _ => hb2⟩
      haveI : Inhabited α := ⟨(hE 0 h0).choose⟩
      obtain ⟨V, hV⟩ := choose_lt hE
      have hll : ((List.range len).map V).length = len := by simp
      refine ⟨some ⟨g, o, none⟩, cap, (List.range len).map V, by rw [hll], fun _ => ⟨g, o, rfl, hg, hg, fun i hi => ?_⟩, fun hW => ⟨?_, ?_⟩⟩
      · have hi' : i < len := by simpa using hi
        have := (hV i hi').1
        simpa using this
      · rw [hll]
        have := hW ((elems.map (·.1)).length * by_ + (rest.map (·.1)).length * by_) (by
          rw [← Nat.add_mul]
          unfold DataW.weights
          rw [hT]
          simp only [hby]
          exact List.mem_cons_self ..)
        rw [List.length_map, hlen] at this
        have h1 : len * 8 ≤ len * by_ := Nat.mul_le_mul_left _ h8
        unfold reachBytes at this
        omega
      · intro b hb
        obtain ⟨i, hi, rfl⟩ := List.mem_map.1 hb
        have hi' : i < len := List.mem_range.1 hi
        have hie : i < elems.length := by omega
        refine (hV i hi').2 hie (weights_all (elems.map (·.1)) (fun n hn => hW n ?_) _ (List.mem_map.2 ⟨elems[i], List.getElem_mem _, rfl⟩))
        unfold DataW.weights
        rw [hT]
        exact List.mem_cons_of_mem _ (List.mem_append_left _ hn)
def LnAt (w : World) (g o : Nat) (f : Nat × Nat) : Prop := ∃ A c B d, w.cell? ⟨g, o, none⟩ = some (.slice A f.1 c) ∧ w.cell? ⟨g, o + 1, none⟩ = some (.slice B f.2 d)
def LnQ (f : Nat × Nat) : Prop := f.1 ≤ 17592186044416 ∧ f.2 ≤ 17592186044416
set_option maxRecDepth 100000 in
theorem open_len_w {n : Nat} {v : Value} {y : DataW H × List MemPlace} (h : DataW.trod enc Tryz.prog w base spare held n 34 [v] = some y) : ∃ A k c, v = .slice A k c ∧ (WOk 34 y.1 → k ≤ 17592186044416) := by
  obtain ⟨A, c, l, hcs, -, hq⟩ := open_slice_w (α := Unit) Tryz.underlying34 (k := 1) (by kernel_rfl) (by omega) (by_ := 8) (by kernel_rfl) (by omega) (fun _ _ _ _ => True) (fun _ => True) (fun _ _ _ _ _ _ _ _ _ => ⟨(), trivial, fun _ => trivial⟩) h
  exact ⟨A, l.length, c, by simpa using hcs, fun hw => (hq hw).1⟩
set_option maxRecDepth 100000 in
theorem open_fu_w {m : Nat} {cs : List Value} {y : DataW H × List MemPlace} (h : DataW.trod enc Tryz.prog w base spare held m 36 cs = some y) (g o : Nat) (hc : ∀ j, j < 2 → w.cell? ⟨g, o + j, none⟩ = cs[j]?) :
    ∃ f : Nat × Nat, LnAt w g o f ∧ (WOk 36 y.1 → LnQ f) := by
  obtain ⟨xs, n, rfl, rfl, hlen, hxl, hf⟩ := DataW.trod_struct Tryz.underlying36 h
  rw [cells_fu] at hlen
  match cs, hlen with
  | [v0, v1], _ =>
    have hxl2 : xs.length = 2 := hxl
    match xs, hxl2 with
    | [x0, x1], _ =>
      have t0 := hf 0 _ rfl
      have t1 := hf 1 _ rfl
      replace t0 : DataW.trod enc Tryz.prog w base spare held n 34 [v0] = some x0 := t0
      replace t1 : DataW.trod enc Tryz.prog w base spare held n 34 [v1] = some x1 := t1
      obtain ⟨A0, n0, c0, rfl, q0⟩ := open_len_w t0
      obtain ⟨A1, n1, c1, rfl, q1⟩ := open_len_w t1
      refine ⟨(n0, n1), ⟨A0, c0, A1, c1, hc 0 (by omega), hc 1 (by omega)⟩, fun hW => ?_⟩
      have hWf : ∀ n ∈ DataW.weightsEach Tryz.prog [34, 34] [x0.1, x1.1], n ≤ reachBytes := fun n hn => hW n (by
        unfold DataW.weights
        rw [Tryz.underlying36]
        exact hn)
      simp only [DataW.weightsEach, List.append_nil, List.mem_append] at hWf
      exact ⟨q0 fun n hn => hWf n (.inl hn), q1 fun n hn => hWf n (.inr hn)⟩
end
set_option maxRecDepth 100000 in
set_option maxHeartbeats 2000000 in
theorem types_few {H : Type} {enc : TypeId × Value → H} {w : World} {base : Nat} {held : Bool} {S : Nat → Prop} {m : Md} {x : MX} {d : DataW H} {p : List MemPlace} (h : DataW.Trod enc Tryz.prog w base (fun _ => true) held 33 (.agg (mdA m x)) d p) (hW : WOk 33 d) (hr : RdT w S x.TA 2 TyAt m.types) :
    ∀ f ∈ m.types, f.1.length ≤ 17592186044416 ∧ f.2.length ≤ 17592186044416 := by
  obtain ⟨fuel, hf⟩ := h
  replace hf : DataW.trod enc Tryz.prog w base (fun _ => true) held fuel 33 (mdA m x).toList = some (d, p) := hf
  obtain ⟨xs, n, rfl, hdp, hlen, hxl, hf⟩ := DataW.trod_struct Tryz.underlying33 hf
  have hxl3 : xs.length = 12 := hxl
  match xs, hxl3 with
  | [x0, x1, x2, x3, x4, x5, x6, x7, x8, x9, x10, x11], _ =>
    have t0 := hf 0 _ rfl
    replace t0 : DataW.trod enc Tryz.prog w base (fun _ => true) held n 22 [.slice x.TA m.types.length x.tc] = some x0 := t0
    obtain ⟨A, c, l, e, r, q⟩ := open_slice_w Tryz.underlying22 cells_fu (by omega) (by_ := 48) (by kernel_rfl) (by omega) LnAt LnQ (fun m cs y hm ht hl g o hc => open_fu_w ht g o hc) t0
    obtain ⟨e1, e2, e3⟩ : x.TA = A ∧ m.types.length = l.length ∧ x.tc = c := by simpa using e
    have hd : d = .agg [x0.1, x1.1, x2.1, x3.1, x4.1, x5.1, x6.1, x7.1, x8.1, x9.1, x10.1, x11.1] := (congrArg Prod.fst hdp)
    subst hd
    have hW0 : WOk 22 x0.1 := fun n hn => hW n (by
      unfold DataW.weights
      rw [Tryz.underlying33]
      show n ∈ DataW.weightsEach Tryz.prog (22 :: _) (x0.1 :: _)
      rw [DataW.weightsEach]
      exact List.mem_append_left _ hn)
    obtain ⟨-, hq⟩ := q hW0
    intro f hf
    obtain ⟨i, hi, rfl⟩ := List.mem_iff_getElem.1 hf
    obtain ⟨g, o, a1, -, -, B1, c1, B2, c2, z1, z2⟩ := hr.get hi
    obtain ⟨g', o', a2, -, -, D1, d1, D2, d2, y1, y2⟩ := r.get (i := i) (by omega)
    rw [e1, a2] at a1
    obtain ⟨rfl, rfl⟩ : g' = g ∧ o' = o := by simpa using a1
    have q1 := z1.symm.trans y1
    have q2 := z2.symm.trans y2
    simp only [Option.some.injEq, Value.slice.injEq] at q1 q2
    have := hq _ (List.getElem_mem (by omega : i < l.length))
    unfold LnQ at this
    omega
theorem lite_few {m : Md} (h : m.Lite) (hp : ∀ f ∈ m.types, f.1.length ≤ 17592186044416 ∧ f.2.length ≤ 17592186044416) : m.Few :=
  ⟨by have := h.ty; omega, by have := h.im; omega, by have := h.fn; omega, by have := h.tb; omega, by have := h.mm; omega, by have := h.gl; omega, by have := h.el; omega, by have := h.da; omega, hp⟩
end Go.Proofs.YtadnfekogmjieaaGreatDoor
