/-
  Layer 51, the frame: a parameter that is machine code, read out of memory.
  Layer 51, the frame: what the rows' listed variables give; a world that holds them.
-/
import Derived.Test.YtadnfekogmjieaaGreatDoorRows
import Derived.Test.YtadnfekogmjieaaGreatDoorGGF
import Derived.Deep.Slices
import Derived.Deep.Fields
import Derived.ChangeSame
import Derived.OpenShut
import Derived.Stop.FmtTextKit
import Derived.Lib.SmallJoins
import Derived.Lay
import Derived.LaidMore
import Derived.Lib.LaidU8
import Derived.Lib.LaidTab
import Derived.Stop.Joined
import Derived.Stop.LaidErr
import Derived.ProofKit
set_option linter.unusedVariables false
set_option linter.unusedSimpArgs false
namespace Go.Proofs.YtadnfekogmjieaaGreatDoor
open Go.ChangeShapes Go.WideShapes Go.Deep Go.RowKit
open Mc (Pl Mi Mf)
theorem spot_of_cell {w : World} {a : Addr} {v : Value} (h : w.cell? a = some v) : a.spot = none ∧ a.block < w.heap.size := by
  unfold World.cell? at h
  split at h
  · rename_i c t f hb
    split at h
    · cases h
    · rename_i hs
      refine ⟨by simpa using hs, ?_⟩
      rcases Nat.lt_or_ge a.block w.heap.size with h1 | h1
      · exact h1
      · rw [Array.getElem?_eq_none h1] at hb; cases hb
  · cases h
theorem add_plain (g o n : Nat) : (⟨g, o, none⟩ : Addr).add n = ⟨g, o + n, none⟩ := by
  unfold Addr.add
  split
  · rename_i h; subst h; rfl
  · rfl
section
variable {H : Type} {enc : TypeId × Value → H} {w : World} {base : Nat} {held : Bool} {spare : Nat → Bool}
theorem open_slice_gen {α : Type} {T e : TypeId} {k : Nat} (hT : Tryz.prog.underlying T = some (.slice e)) (hk : Tryz.prog.cellsOf e = k) (hk0 : 0 < k)
    (R : World → Nat → Nat → α → Prop) (Q : α → Prop) {fuel : Nat}
    (hel : ∀ (m : Nat) (cs : List Value) (y : DataW H × List MemPlace), m < fuel → DataW.trod enc Tryz.prog w base spare held m e cs = some y → cs.length = k → ∀ g o, (∀ j, j < k → w.cell? ⟨g, o + j, none⟩ = cs[j]?) → ∃ a : α, R w g o a ∧ Q a)
    {cs : List Value} {x : DataW H × List MemPlace} (h : DataW.trod enc Tryz.prog w base spare held fuel T cs = some x) :
    ∃ (A : Option Addr) (c : Nat) (l : List α), cs = [.slice A l.length c] ∧ RdT w (fun g => g < w.heap.size) A k R l ∧ (∀ a ∈ l, Q a) ∧ l.length ≤ c ∧ c ≤ maxLen := by
  rcases DataW.trod_slice hT h with ⟨rfl, rfl⟩ | ⟨a, len, cap, elems, rest, n, rfl, rfl, rfl, hb, hl, hm, hlen, hx, _, _⟩
  · exact ⟨none, 0, [], rfl, RdT.nil_, by simp, by simp, by simp⟩
  · rw [hk] at hx
    rcases Nat.eq_zero_or_pos len with h0 | h0
    · subst h0
      exact ⟨some a, cap, [], rfl, RdT.nil_, by simp, by simp, hm⟩
    · have hsp : ∃ g o, a = ⟨g, o, none⟩ ∧ g < w.heap.size := by
        have hx0 := hx 0 h0
        rw [List.getElem?_eq_getElem (by omega)] at hx0
        obtain ⟨cs', hc, ht⟩ := Option.bind_eq_some_iff.1 hx0
        obtain ⟨_, hcl, hat⟩ := World.cells?_some hc
        have z0 := hat 0 hk0
        rw [List.getElem?_eq_getElem (by omega), Nat.zero_mul] at z0
        have hz : (a.add 0).add 0 = a := by unfold Addr.add; simp
        rw [hz] at z0
        obtain ⟨h1, h2⟩ := spot_of_cell z0
        obtain ⟨g, o, sp⟩ := a
        dsimp only at h1 h2
        subst h1
        exact ⟨g, o, rfl, h2⟩
      obtain ⟨g, o, rfl, hg⟩ := hsp
      have hE : ∀ i, i < len → ∃ b : α, R w g (o + i * k) b ∧ Q b := by
        intro i hi
        have hxi := hx i hi
        have hie : i < elems.length := by omega
        rw [List.getElem?_eq_getElem hie] at hxi
        obtain ⟨cs', hc, ht⟩ := Option.bind_eq_some_iff.1 hxi
        obtain ⟨_, hcl, hat⟩ := World.cells?_some hc
        rw [add_plain] at hat
        exact hel n cs' elems[i] (by omega) ht hcl g (o + i * k) (fun j hj => by have := hat j hj; rwa [add_plain] at this)
      haveI : Inhabited α := ⟨(hE 0 h0).choose⟩
      obtain ⟨V, hV⟩ := choose_lt hE
      have hll : ((List.range len).map V).length = len := by simp
      refine ⟨some ⟨g, o, none⟩, cap, (List.range len).map V, by rw [hll], fun _ => ⟨g, o, rfl, hg, hg, fun i hi => ?_⟩, ?_, by rw [hll]; exact hl, hm⟩
      · have hi' : i < len := by simpa using hi
        have := (hV i hi').1
        simpa using this
      · intro b hb
        obtain ⟨i, hi, rfl⟩ := List.mem_map.1 hb
        exact (hV i (List.mem_range.1 hi)).2
theorem wf_in {z : Int} (h : (Lit.int .i64 z).wf = true) : InR z := by
  have := Go.Extern.FmtText.int_bounds h
  unfold InR
  simpa [IntKind.min, IntKind.max, IntKind.signed, IntKind.bits] using this
theorem wf_u64 {z : Int} (h : (Lit.int .u64 z).wf = true) : ((z.toNat : Nat) : Int) = z ∧ z.toNat < 18446744073709551616 := by
  have := Go.Extern.FmtText.int_bounds h
  have h' : 0 ≤ z ∧ z ≤ 18446744073709551615 := by simpa [IntKind.min, IntKind.max, IntKind.signed, IntKind.bits] using this
  omega
theorem open_row {T e : TypeId} (hT : Tryz.prog.underlying T = some (.slice e)) (he : Tryz.prog.underlying e = some (.int .i64)) (hk : Tryz.prog.cellsOf e = 1) {n : Nat} {v : Value} {y : DataW H × List MemPlace}
    (h : DataW.trod enc Tryz.prog w base spare held n T [v] = some y) :
    ∃ (A : Option Addr) (c : Nat) (l : List Int), v = .slice A l.length c ∧ RdZ w (fun g => g < w.heap.size) A l ∧ (∀ z ∈ l, InR z) ∧ l.length ≤ c ∧ c ≤ maxLen := by
  obtain ⟨A, c, l, hcs, hr, hq, hl⟩ := open_slice_gen hT hk (by omega) ZAt InR (fun m cs y hm ht hl g o hc => by
    obtain ⟨z, e0, _, wf⟩ := DataW.trod_int he ht
    have := hc 0 (by omega)
    subst e0
    exact ⟨z, this, wf_in wf⟩) h
  exact ⟨A, c, l, by simpa using hcs, hr, hq, hl⟩
set_option maxRecDepth 100000 in
theorem cells_pl : Tryz.prog.cellsOf 64 = 2 := by kernel_rfl
theorem cells_mi : Tryz.prog.cellsOf 61 = 9 := by kernel_rfl
theorem cells_mf : Tryz.prog.cellsOf 39 = 4 := by kernel_rfl
theorem open_ints_ {n : Nat} {v : Value} {y : DataW H × List MemPlace} (h : DataW.trod enc Tryz.prog w base spare held n 58 [v] = some y) :
    ∃ (A : Option Addr) (c : Nat) (l : List Int), v = .slice A l.length c ∧ RdZ w (fun g => g < w.heap.size) A l ∧ (∀ z ∈ l, InR z) ∧ l.length ≤ c ∧ c ≤ maxLen :=
  open_row Tryz.underlying58 Tryz.underlying3 (by kernel_rfl) h
theorem open_vals_ {n : Nat} {v : Value} {y : DataW H × List MemPlace} (h : DataW.trod enc Tryz.prog w base spare held n 34 [v] = some y) :
    ∃ (A : Option Addr) (c : Nat) (l : List Int), v = .slice A l.length c ∧ RdZ w (fun g => g < w.heap.size) A l ∧ (∀ z ∈ l, InR z) ∧ l.length ≤ c ∧ c ≤ maxLen :=
  open_row Tryz.underlying34 Tryz.underlying68 (by kernel_rfl) h
set_option maxRecDepth 100000 in
theorem open_pl {m : Nat} {cs : List Value} {y : DataW H × List MemPlace} (h : DataW.trod enc Tryz.prog w base spare held m 64 cs = some y) (g o : Nat) (hc : ∀ j, j < 2 → w.cell? ⟨g, o + j, none⟩ = cs[j]?) :
    ∃ p : Pl, PlAt w g o p ∧ InR p.n := by
  obtain ⟨xs, n, rfl, rfl, hlen, hxl, hf⟩ := DataW.trod_struct Tryz.underlying64 h
  rw [cells_pl] at hlen
  match cs, hlen with
  | [v0, v1], _ =>
    have hxl2 : xs.length = 2 := hxl
    match xs, hxl2 with
    | [x0, x1], _ =>
      have t0 := hf 0 _ rfl
      have t1 := hf 1 _ rfl
      replace t0 : DataW.trod enc Tryz.prog w base spare held n 4 [v0] = some x0 := t0
      replace t1 : DataW.trod enc Tryz.prog w base spare held n 3 [v1] = some x1 := t1
      obtain ⟨b, e0, _⟩ := DataW.trod_bool Tryz.underlying4 t0
      obtain ⟨z, e1, _, wf⟩ := DataW.trod_int Tryz.underlying3 t1
      obtain rfl : v0 = .bool b := by simpa using e0
      obtain rfl : v1 = .int .i64 z := by simpa using e1
      exact ⟨⟨b, z⟩, ⟨hc 0 (by omega), hc 1 (by omega)⟩, wf_in wf⟩
structure QMi (x : Mi) : Prop where
  kind : InR x.kind
  op : InR x.op
  a : InR x.a
  b : InR x.b
  n : x.n < 18446744073709551616
  d : ∀ p ∈ x.d, InR p.n
  s : ∀ p ∈ x.s, InR p.n
  tos : ∀ z ∈ x.tos, InR z
  trap : InR x.trap
set_option maxRecDepth 100000 in
theorem open_mi {m : Nat} {cs : List Value} {y : DataW H × List MemPlace} (h : DataW.trod enc Tryz.prog w base spare held m 61 cs = some y) (g o : Nat) (hc : ∀ j, j < 9 → w.cell? ⟨g, o + j, none⟩ = cs[j]?) :
    ∃ x : Mi, MiAt (fun g => g < w.heap.size) w g o x ∧ QMi x := by
  obtain ⟨xs, n, rfl, rfl, hlen, hxl, hf⟩ := DataW.trod_struct Tryz.underlying61 h
  rw [cells_mi] at hlen
  match cs, hlen with
  | [v0, v1, v2, v3, v4, v5, v6, v7, v8], _ =>
    have hxl2 : xs.length = 9 := hxl
    match xs, hxl2 with
    | [x0, x1, x2, x3, x4, x5, x6, x7, x8], _ =>
      have t0 := hf 0 _ rfl
      have t1 := hf 1 _ rfl
      have t2 := hf 2 _ rfl
      have t3 := hf 3 _ rfl
      have t4 := hf 4 _ rfl
      have t5 := hf 5 _ rfl
      have t6 := hf 6 _ rfl
      have t7 := hf 7 _ rfl
      have t8 := hf 8 _ rfl
      replace t0 : DataW.trod enc Tryz.prog w base spare held n 3 [v0] = some x0 := t0
      replace t1 : DataW.trod enc Tryz.prog w base spare held n 55 [v1] = some x1 := t1
      replace t2 : DataW.trod enc Tryz.prog w base spare held n 3 [v2] = some x2 := t2
      replace t3 : DataW.trod enc Tryz.prog w base spare held n 3 [v3] = some x3 := t3
      replace t4 : DataW.trod enc Tryz.prog w base spare held n 56 [v4] = some x4 := t4
      replace t5 : DataW.trod enc Tryz.prog w base spare held n 57 [v5] = some x5 := t5
      replace t6 : DataW.trod enc Tryz.prog w base spare held n 57 [v6] = some x6 := t6
      replace t7 : DataW.trod enc Tryz.prog w base spare held n 58 [v7] = some x7 := t7
      replace t8 : DataW.trod enc Tryz.prog w base spare held n 59 [v8] = some x8 := t8
      obtain ⟨z0, e0, _, wf0⟩ := DataW.trod_int Tryz.underlying3 t0
      obtain ⟨z1, e1, _, wf1⟩ := DataW.trod_int Tryz.underlying55 t1
      obtain ⟨z2, e2, _, wf2⟩ := DataW.trod_int Tryz.underlying3 t2
      obtain ⟨z3, e3, _, wf3⟩ := DataW.trod_int Tryz.underlying3 t3
      obtain ⟨z4, e4, _, wf4⟩ := DataW.trod_int Tryz.underlying56 t4
      obtain ⟨D, c1, ds, e5, r5, q5, l5, _⟩ := open_slice_gen Tryz.underlying57 cells_pl (by omega) PlAt (fun p => InR p.n) (fun m cs y hm ht hl g o hc => open_pl ht g o hc) t5
      obtain ⟨E, c2, ss, e6, r6, q6, l6, _⟩ := open_slice_gen Tryz.underlying57 cells_pl (by omega) PlAt (fun p => InR p.n) (fun m cs y hm ht hl g o hc => open_pl ht g o hc) t6
      obtain ⟨T, c3, ts, rfl, r7, q7, l7, _⟩ := open_ints_ t7
      obtain ⟨z8, e8, _, wf8⟩ := DataW.trod_int Tryz.underlying59 t8
      obtain rfl : v0 = .int .i64 z0 := by simpa using e0
      obtain rfl : v1 = .int .i64 z1 := by simpa using e1
      obtain rfl : v2 = .int .i64 z2 := by simpa using e2
      obtain rfl : v3 = .int .i64 z3 := by simpa using e3
      obtain rfl : v4 = .int .u64 z4 := by simpa using e4
      obtain rfl : v5 = .slice D ds.length c1 := by simpa using e5
      obtain rfl : v6 = .slice E ss.length c2 := by simpa using e6
      obtain rfl : v8 = .int .i64 z8 := by simpa using e8
      obtain ⟨u1, u2⟩ := wf_u64 wf4
      refine ⟨⟨z0, z1, z2, z3, z4.toNat, ds, ss, ts, z8⟩, ⟨D, c1, E, c2, T, c3, ?_, ⟨r5, r6, r7⟩, l5⟩, ⟨wf_in wf0, wf_in wf1, wf_in wf2, wf_in wf3, u2, q5, q6, q7, wf_in wf8⟩⟩
      intro j v hj
      have hj9 : j < 9 := by
        rcases Nat.lt_or_ge j 9 with h9 | h9
        · exact h9
        · rw [Array.getElem?_eq_none (by unfold miV; exact h9)] at hj; cases hj
      rw [hc j hj9]
      unfold miV at hj
      dsimp only at hj
      rw [u1] at hj
      simpa using hj
end
set_option maxRecDepth 100000 in
theorem open_mf {H : Type} {enc : TypeId × Value → H} {w : World} {base : Nat} {held : Bool} {r : Reach} {b0 : Nat} {v : Value} {d : DataW H} {p : List MemPlace}
    (hv : Value.okWide Tryz.prog w r b0 39 v) (h : DataW.Trod enc Tryz.prog w base (fun _ => true) held 39 v d p) :
    ∃ (f : Mf) (P : Option Addr) (c1 : Nat) (R : Option Addr) (c2 : Nat) (C : Option Addr) (c3 : Nat), v = .agg (mfV f P c1 R c2 C c3) ∧ MfAt (fun g => g < w.heap.size) w f P R C ∧ InR f.slots ∧ (∀ x ∈ f.code, QMi x) ∧ f.code.length ≤ c3 ∧ c3 ≤ maxLen := by
  obtain ⟨cs, rfl, hsz⟩ := okWide_struct Tryz.underlying39 hv
  rw [cells_mf] at hsz
  obtain ⟨fuel, hf⟩ := h
  obtain ⟨L⟩ := cs
  replace hf : DataW.trod enc Tryz.prog w base (fun _ => true) held fuel 39 L = some (d, p) := hf
  obtain ⟨xs, n, rfl, hdp, hlen, hxl, hf⟩ := DataW.trod_struct Tryz.underlying39 hf
  have hL4 : L.length = 4 := hsz
  match L, hL4 with
  | [v0, v1, v2, v3], _ =>
    have hxl3 : xs.length = 3 := hxl
    match xs, hxl3 with
    | [x0, x1, x2], _ =>
      have t0 := hf 0 _ rfl
      have t1 := hf 1 _ rfl
      have t2 := hf 2 _ rfl
      replace t0 : DataW.trod enc Tryz.prog w base (fun _ => true) held n 36 [v0, v1] = some x0 := t0
      replace t1 : DataW.trod enc Tryz.prog w base (fun _ => true) held n 3 [v2] = some x1 := t1
      replace t2 : DataW.trod enc Tryz.prog w base (fun _ => true) held n 37 [v3] = some x2 := t2
      obtain ⟨z, e2, _, wf⟩ := DataW.trod_int Tryz.underlying3 t1
      obtain ⟨C, c3, code, e3, hr3, hq3, hl3, hm3⟩ := open_slice_gen Tryz.underlying37 cells_mi (by omega) (MiAt (fun g => g < w.heap.size)) QMi (fun m cs y hm ht hl g o hc => open_mi ht g o hc) t2
      obtain rfl : v2 = .int .i64 z := by simpa using e2
      obtain rfl : v3 = .slice C code.length c3 := by simpa using e3
      obtain ⟨xs', n', rfl, rfl, hlen', hxl', hf'⟩ := DataW.trod_struct Tryz.underlying36 t0
      have hxl4 : xs'.length = 2 := hxl'
      match xs', hxl4 with
      | [y0, y1], _ =>
        have s0 := hf' 0 _ rfl
        have s1 := hf' 1 _ rfl
        replace s0 : DataW.trod enc Tryz.prog w base (fun _ => true) held n' 34 [v0] = some y0 := s0
        replace s1 : DataW.trod enc Tryz.prog w base (fun _ => true) held n' 34 [v1] = some y1 := s1
        obtain ⟨A0, c0, ps, rfl, hr0, hq0, _, _⟩ := open_vals_ s0
        obtain ⟨A1, c1, rs, rfl, hr1, hq1, _, _⟩ := open_vals_ s1
        exact ⟨⟨ps, rs, z, code⟩, A0, c0, A1, c1, C, c3, rfl, ⟨hr0, hr1, hr3⟩, wf_in wf, hq3, hl3, hm3⟩
end Go.Proofs.YtadnfekogmjieaaGreatDoor
set_option linter.unusedVariables false
set_option linter.unusedSimpArgs false
namespace Go.Proofs.YtadnfekogmjieaaGreatDoor
open Go.ChangeShapes Go.WideShapes Go.ChangeAt Go.RowKit Go.Joins Go.Deep
def laid10 : List (String × DataW Unit) := [("math/bits.deBruijn32tab", Rows.laid_math_bits_deBruijn32tab), ("math/bits.deBruijn64tab", Rows.laid_math_bits_deBruijn64tab), ("internal/strconv.uint64pow10", Rows.laid_internal_strconv_uint64pow10), ("unicode/utf8.acceptRanges", Rows.laid_unicode_utf8_acceptRanges), ("strconv.ErrRange", Rows.laid_strconv_ErrRange), ("strconv.ErrSyntax", Rows.laid_strconv_ErrSyntax), ("unicode.White_Space", Rows.laid_unicode_White_Space), ("strings.asciiSpace", Rows.laid_strings_asciiSpace), ("millwright/mach.rows", Rows.laid_millwright_mach_rows), ("unicode/utf8.first", Rows.laid_unicode_utf8_first)]
set_option maxRecDepth 100000 in
theorem laid_pow : (Rows.laid_internal_strconv_uint64pow10 : DataW Unit) = Lib.tabData .u64 Lib.pow10Tab := by kernel_rfl
set_option maxRecDepth 100000 in
theorem laid_spc : (Rows.laid_strings_asciiSpace : DataW Unit) = Lib.tabData .u8 Lib.asciiSpaceTab := by kernel_rfl
set_option maxRecDepth 100000 in
theorem laid_wht : (Rows.laid_unicode_White_Space : DataW Unit) = Lib.whiteData := by kernel_rfl
set_option maxRecDepth 100000 in
theorem white_extra : WhiteExtra Tryz.prog Tryz.lays199_ren := ⟨by kernel_rfl, by kernel_rfl, by kernel_rfl, by kernel_rfl, by kernel_rfl, by kernel_rfl, by kernel_rfl, by kernel_rfl⟩
set_option maxRecDepth 100000 in
theorem wht_of {W : World} (hL : laidMet Tryz.prog laid10 W) : Lib.WhiteTab 6 W := by
  have h := whiteTab_of_reads Tryz.lays199 white_extra (w := W) (by
    rw [← laid_wht]
    exact Lib.laidMet.reads hL (by unfold laid10; simp))
  exact h
theorem star_errorString : "*" ++ "errors.errorString" = "*errors.errorString" := by decide
theorem row_errorString (u : TypeId) (h : Tryz.prog.typeName? 3 u = some "*errors.errorString") : u = 280 :=
  typeName_ptr_named (nm := "errors.errorString") (by rw [star_errorString]; kernel_rfl) (by kernel_rfl) (by decide) u (by rw [star_errorString]; exact h)
/-! The table of kinds. -/
def rwData (r : Mc.Rw) : DataW Unit := .agg [.lit (.string r.w), .lit (.bool r.op), .lit (.bool r.a), .lit (.bool r.b), .lit (.bool r.n), .lit (.bool r.t)]
set_option maxRecDepth 100000 in
theorem laid_rows : (Rows.laid_millwright_mach_rows : DataW Unit) = .agg (Mc.rws.map rwData) := by kernel_rfl
set_option maxRecDepth 100000 in
theorem cells_row : Tryz.prog.cellsOf 143 = 6 := by kernel_rfl
set_option maxRecDepth 100000 in
theorem row_of {w : World} {base : Nat} {sp : Nat → Bool} {held : Bool} {m : Nat} {cs : List Value} {r : Mc.Rw} {p : List MemPlace} (h : DataW.trod (fun _ => ()) Tryz.prog w base sp held m 143 cs = some (rwData r, p)) : cs = encRw r := by
  obtain ⟨xs, n, rfl, hx, hlen, hxl, hf⟩ := DataW.trod_struct Tryz.underlying143 h
  rw [cells_row] at hlen
  match cs, hlen with
  | [v0, v1, v2, v3, v4, v5], _ =>
    have hxl2 : xs.length = 6 := hxl
    match xs, hxl2 with
    | [x0, x1, x2, x3, x4, x5], _ =>
      have t0 := hf 0 _ rfl
      have t1 := hf 1 _ rfl
      have t2 := hf 2 _ rfl
      have t3 := hf 3 _ rfl
      have t4 := hf 4 _ rfl
      have t5 := hf 5 _ rfl
      replace t0 : DataW.trod (fun _ => ()) Tryz.prog w base sp held n 9 [v0] = some x0 := t0
      replace t1 : DataW.trod (fun _ => ()) Tryz.prog w base sp held n 4 [v1] = some x1 := t1
      replace t2 : DataW.trod (fun _ => ()) Tryz.prog w base sp held n 4 [v2] = some x2 := t2
      replace t3 : DataW.trod (fun _ => ()) Tryz.prog w base sp held n 4 [v3] = some x3 := t3
      replace t4 : DataW.trod (fun _ => ()) Tryz.prog w base sp held n 4 [v4] = some x4 := t4
      replace t5 : DataW.trod (fun _ => ()) Tryz.prog w base sp held n 4 [v5] = some x5 := t5
      obtain ⟨s, e0, f0, _⟩ := DataW.trod_string Tryz.underlying9 t0
      obtain ⟨b1, e1, f1⟩ := DataW.trod_bool Tryz.underlying4 t1
      obtain ⟨b2, e2, f2⟩ := DataW.trod_bool Tryz.underlying4 t2
      obtain ⟨b3, e3, f3⟩ := DataW.trod_bool Tryz.underlying4 t3
      obtain ⟨b4, e4, f4⟩ := DataW.trod_bool Tryz.underlying4 t4
      obtain ⟨b5, e5, f5⟩ := DataW.trod_bool Tryz.underlying4 t5
      subst f0 f1 f2 f3 f4 f5
      have hh := congrArg Prod.fst hx
      unfold rwData at hh
      simp only [List.map_cons, List.map_nil, DataW.agg.injEq, List.cons.injEq, DataW.lit.injEq, Lit.string.injEq, Lit.bool.injEq, and_true] at hh
      obtain ⟨g0, g1, g2, g3, g4, g5⟩ := hh
      simp only [List.cons.injEq, and_true] at e0 e1 e2 e3 e4 e5
      subst e0 e1 e2 e3 e4 e5
      unfold encRw
      rw [g0, g1, g2, g3, g4, g5]
set_option maxRecDepth 100000 in
theorem rws_of {W : World} (h : Lib.VarReads Tryz.prog W "millwright/mach.rows" (.agg (Mc.rws.map rwData))) : Rws W := by
  obtain ⟨g, t, cs, fuel, p, hg, hty, hv, ht⟩ := h
  obtain rfl : g = 0 := (Option.some.inj ((show Tryz.prog.globalNamed "millwright/mach.rows" = some 0 by kernel_rfl).symm.trans hg)).symm
  obtain rfl : t = 144 := (Option.some.inj ((show (Tryz.prog.globals[0]?).map (·.type) = some 144 by kernel_rfl).symm.trans hty)).symm
  obtain ⟨xs, m, rfl, hx, hcl, hxl, hel⟩ := DataW.trod_array Tryz.underlying144 ht
  have hxs : xs.map (·.1) = Mc.rws.map rwData := by
    have := congrArg Prod.fst hx
    simpa using this.symm
  have hcs : ∀ q, q < 24 → (hq : q < Mc.rws.length) → (cs.toList.drop (q * 6)).take 6 = encRw Mc.rws[q] := by
    intro q h24 hq
    have h1 := hel q h24
    rw [cells_row] at h1
    have hq2 : q < xs.length := by omega
    rw [List.getElem?_eq_getElem hq2] at h1
    have h2 : xs[q].1 = rwData Mc.rws[q] := by
      have h3 : (xs.map (·.1))[q]'(by rw [List.length_map]; exact hq2) = (Mc.rws.map rwData)[q]'(by rw [List.length_map]; exact hq) := by simp only [hxs]
      rwa [List.getElem_map, List.getElem_map] at h3
    obtain ⟨⟨x, px⟩, hxq⟩ : ∃ y, xs[q] = y := ⟨_, rfl⟩
    rw [hxq] at h1 h2
    dsimp only at h2
    subst h2
    exact row_of h1
  intro i v hi
  have hlt : i < 144 := by
    rcases Nat.lt_or_ge i 144 with h | h
    · exact h
    · rw [List.getElem?_eq_none (by rw [rowCells_len]; exact h)] at hi; cases hi
  rw [World.var?_cell hg hv i, ← Array.getElem?_toList]
  have hq : i / 6 < Mc.rws.length := by rw [Mc.rws_len]; omega
  have e1 : i = i / 6 * 6 + i % 6 := by omega
  have h1 := flat_at encRw_len Mc.rws (i / 6) hq (i % 6) (by omega)
  rw [← e1] at h1
  have h2 : rowCells[i]? = (encRw Mc.rws[i / 6])[i % 6]? := h1
  rw [h2, ← hcs (i / 6) (by omega) hq, List.getElem?_take, if_pos (by omega), List.getElem?_drop, ← e1] at hi
  exact hi
set_option maxRecDepth 100000 in
theorem glob_of_laid {W : World} (h : laidMetH Tryz.prog laid10 W) (hS : W.ShapedOpen Tryz.prog) : GlobM W := by
  rw [MakeChecks.laidMetH_plain _ _ _ (by kernel_rfl)] at h
  obtain ⟨g2, e2, f2⟩ : ∃ g, Tryz.prog.globalNamed "internal/strconv.uint64pow10" = some g ∧ (Tryz.prog.globals[g]?).map (·.type) = some 260 := ⟨_, rfl, by kernel_rfl⟩
  obtain ⟨g7, e7, f7⟩ : ∃ g, Tryz.prog.globalNamed "strings.asciiSpace" = some g ∧ (Tryz.prog.globals[g]?).map (·.type) = some 255 := ⟨_, rfl, by kernel_rfl⟩
  have hw := wht_of h
  have hr := rws_of (by
    rw [← laid_rows]
    exact Lib.laidMet.reads h (by unfold laid10; simp))
  have h2 := h.tail.tail
  have h7 := h2.tail.tail.tail.tail.tail
  rw [laid_pow] at h2
  rw [laid_spc] at h7
  have hL := h.tail.tail.tail.tail
  obtain ⟨g3, e3, f3⟩ : ∃ g, Tryz.prog.globalNamed "strconv.ErrRange" = some g ∧ (Tryz.prog.globals[g]?).map (·.type) = some 106 := ⟨_, rfl, by kernel_rfl⟩
  obtain ⟨g4, e4, f4⟩ : ∃ g, Tryz.prog.globalNamed "strconv.ErrSyntax" = some g ∧ (Tryz.prog.globals[g]?).map (·.type) = some 106 := ⟨_, rfl, by kernel_rfl⟩
  obtain ⟨a0, s0, hv0, -, -, -⟩ := laid_sentinel hL e3 f3 Tryz.underlying106 row_errorString Tryz.underlying280 Tryz.underlying282 rfl rfl Tryz.underlying9 (by kernel_rfl) (by kernel_rfl)
  obtain ⟨a1, s1, hv1, -, -, -⟩ := laid_sentinel hL.tail e4 f4 Tryz.underlying106 row_errorString Tryz.underlying280 Tryz.underlying282 rfl rfl Tryz.underlying9 (by kernel_rfl) (by kernel_rfl)
  exact ⟨⟨Lib.tabIs_of_head e2 f2 Tryz.underlying260 Tryz.underlying56 (by kernel_rfl) (by kernel_rfl) h2, ⟨_, _, hv1⟩, ⟨_, _, hv0⟩, Lib.tabIs_of_head e7 f7 Tryz.underlying255 Tryz.underlying5 (by kernel_rfl) (by kernel_rfl) h7, hw, Tryz.laysM219.s1_3 W hS⟩, hr⟩
set_option maxRecDepth 100000 in
theorem laid10_met (os : Os) (args : Array Value) : laidMetH Tryz.prog laid10 ((World.laidAll Tryz.prog os laid10).forCall (fun _ _ => 0) ⟨#[], args, []⟩).memory := by
  rw [MakeChecks.laidMetH_plain _ _ _ (by kernel_rfl)]
  exact laidMet_laidAll _ (by kernel_rfl) (by kernel_rfl)
set_option maxRecDepth 100000 in
theorem laid10_shaped (os : Os) (args : Array Value) : ((World.laidAll Tryz.prog os laid10).forCall (fun _ _ => 0) ⟨#[], args, []⟩).Shaped Tryz.prog :=
  World.shaped_of_ZipB (by kernel_rfl) (by kernel_rfl)
end Go.Proofs.YtadnfekogmjieaaGreatDoor
