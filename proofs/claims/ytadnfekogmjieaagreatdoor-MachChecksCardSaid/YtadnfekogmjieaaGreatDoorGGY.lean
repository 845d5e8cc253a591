/-
  Layer 51, the reference's module: Imported, nth, own.
  Layer 51, the reference's module: own, Type, Elem, Func, Table, Global. (Printed by gen_mk5.py.)
-/
import Derived.Test.YtadnfekogmjieaaGreatDoorGGI
import Derived.Test.YtadnfekogmjieaaGreatDoorGGW
import Derived.Test.YtadnfekogmjieaaGreatDoorGTj
import Derived.Test.YtadnfekogmjieaaGreatDoorGTk
import Derived.Test.YtadnfekogmjieaaGreatDoorGLM1
import Derived.Test.YtadnfekogmjieaaGreatDoorGMC5
set_option linter.unusedVariables false
set_option linter.unusedSimpArgs false
namespace Go.Proofs.YtadnfekogmjieaaGreatDoor
open Go.RowKit
open Mc (Im Md)
theorem Mc.impN_step {l : List Im} {i : Nat} (k : Int) (h : i < l.length) : Mc.impN (l.take (i + 1)) k = Mc.impN (l.take i) k + (if l[i].kind = k then 1 else 0) := by
  unfold Mc.impN
  rw [List.take_succ_eq_append_getElem h, List.filter_append, List.length_append]
  by_cases hk : l[i].kind = k
  · simp [hk]
  · simp [hk]
theorem md_cell1 {W : World} {K : Nat} {m : Md} {x : MX} {T : TypeId} (h : Var W K (mdA m x) T) : W.cell? ⟨K, 1, none⟩ = some (.slice x.IA m.imps.length x.ic) := h.cells 1
set_option maxHeartbeats 4000000 in
theorem rimported_any (m : Md) (hf : m.imps.length ≤ 100000) (x : MX) (S : Nat → Prop) (k : Int) (w : World) (hm : MdRd S w m x) :
    Calls Tryz.prog 201 #[.agg (mdA m x), .int .i64 k] w fun e w' => e = .returned (.int .i64 (Mc.impN m.imps k : Int)) ∧ Below w.heap.size w w' := by
  have V := Var.new w (mdA m x) 33
  have HB := Lib.hid ((Below.refl w.heap.size w).alloc (Nat.le_refl _) (.cells (mdA m x) 33))
  have c1 := md_cell1 V
  have hm1 := (hm.on HB.out).im
  obtain ⟨l, hl⟩ : ∃ l, m.imps = l := ⟨_, rfl⟩
  rw [hl] at c1 hm1 hf ⊢
  obtain ⟨M, hM⟩ : ∃ M, mdA m x = M := ⟨_, rfl⟩
  rw [hM] at c1 hm1 HB ⊢
  obtain ⟨IA, hIA⟩ : ∃ a, x.IA = a := ⟨_, rfl⟩
  obtain ⟨ic, hic⟩ : ∃ a, x.ic = a := ⟨_, rfl⟩
  rw [hIA, hic] at c1
  rw [hIA] at hm1
  have HM := Lib.hid hm1
  clear V hm hl hM hIA hic hm1
  go_enter Tryz.func201, Tryz.ntmps201
  go_wp2
  go_loopw [5, 6] (fun nv iv wr => ∃ i : Nat, nv = .int .i64 (Mc.impN (l.take i) k : Int) ∧ iv = .int .i64 (i : Int) ∧ i ≤ l.length ∧ w.alloc (.cells M 33) = wr) (fun _ iv _ => l.length - (intOf iv).toNat)
  case atStart => exact ⟨0, rfl, rfl, by omega, rfl⟩
  case round =>
    obtain ⟨i, rfl, rfl, hi, rfl⟩ := hrel
    by_cases hia : i < l.length
    · have hst := Mc.impN_step k hia
      obtain ⟨g, o, rfl, -, hg, u0, u1, l0, l1, l2, n0, n1, n2, hc⟩ := HM.out.get hia
      have f2 := hc 2 _ rfl
      have x0 : (i : Int) < (l.length : Int) := by omega
      have x1 : (0 : Int) ≤ (i : Int) := by omega
      have hle := Mc.impN_le (l.take i) k
      have hle2 : (l.take i).length ≤ 100000 := by rw [List.length_take]; omega
      obtain ⟨n, hn⟩ : ∃ n, Mc.impN (l.take i) k = n := ⟨_, rfl⟩
      rw [hn] at hst hle ⊢
      obtain ⟨kd, hkd⟩ : ∃ z, (l[i]).kind = z := ⟨_, rfl⟩
      rw [hkd] at hst f2
      clear hc hkd hn
      by_cases hk : kd = k
      · rw [if_pos hk] at hst
        have y0 : (kd == k) = true := by simpa using hk
        have HS := Lib.hid hst
        clear hst
        go_wp2
        go_roundw
        case rel => exact ⟨i + 1, by rw [HS.out]; go_num, by go_num, by omega, by trivial⟩
        case measure => simp [intOf] <;> omega
      · rw [if_neg hk] at hst
        have y0 : (kd == k) = false := by simpa using hk
        have HS := Lib.hid hst
        clear hst
        go_wp2
        go_roundw
        case rel => exact ⟨i + 1, by rw [HS.out]; go_num, by go_num, by omega, by trivial⟩
        case measure => simp [intOf] <;> omega
    · obtain rfl : i = l.length := by omega
      rw [List.take_length]
      have x0 : ¬ (l.length : Int) < (l.length : Int) := by omega
      go_wp2
      go_ret
      exact ⟨rfl, HB.out⟩
/-! nth. -/
def imZ : Array Value := #[.string ⟨#[]⟩, .string ⟨#[]⟩, .int .i64 0, .int .i64 0, .int .i64 0, .int .i64 0, .int .i64 0, .bool false, .int .i64 0, .int .i64 0, .bool false, .int .i64 0, .bool false]
def ImV (x : Im) (v : Array Value) : Prop := ∃ (u0 u1 : ByteArray) (l0 l1 : Int) (l2 : Bool) (n0 n1 : Int) (n2 : Bool), v = #[.string u0, .string u1, .int .i64 x.kind, .int .i64 x.func, .int .i64 x.elem, .int .i64 l0, .int .i64 l1, .bool l2, .int .i64 n0, .int .i64 n1, .bool n2, .int .i64 x.gtyp, .bool x.gmut]
def NthOut (o : Option Im) (e : Ending) : Prop := match o with | some x => ∃ v, ImV x v ∧ e = .returned (.tuple #[.agg v, .bool true]) | none => ∃ v, (∃ y, ImV y v) ∧ e = .returned (.tuple #[.agg v, .bool false])
theorem Mc.nthI_wrap {l : List Im} {k z : Int} (hl : l.length ≤ 100000) (h0 : -9223372036854775808 ≤ z) (h1 : z ≤ 9223372036854775807) : Mc.nthI l k (IntKind.i64.wrap (z - 1)) = Mc.nthI l k (z - 1) ∧ -9223372036854775808 ≤ IntKind.i64.wrap (z - 1) ∧ IntKind.i64.wrap (z - 1) ≤ 9223372036854775807 := by
  rw [IntKind.wrap_i64]
  by_cases h : z = -9223372036854775808
  · subst h
    refine ⟨?_, by decide, by decide⟩
    exact (Mc.nthI_far (by omega)).trans (Mc.nthI_neg (by decide)).symm
  · have e : (z - 1 + 9223372036854775808) % 18446744073709551616 - 9223372036854775808 = z - 1 := by omega
    first
      | (rw [e]; exact ⟨rfl, by omega, by omega⟩)
      | (refine ⟨by congr 1; omega, by omega, by omega⟩)
theorem put13 {W : World} {K : Nat} {t : TypeId} {a0 a1 a2 a3 a4 a5 a6 a7 a8 a9 a10 a11 a12 : Value} (h : Var W K #[a0, a1, a2, a3, a4, a5, a6, a7, a8, a9, a10, a11, a12] t) (b0 b1 b2 b3 b4 b5 b6 b7 b8 b9 b10 b11 b12 : Value) : Var (((((((((((((W.setCell ⟨K, 0, none⟩ b0).setCell ⟨K, 1, none⟩ b1).setCell ⟨K, 2, none⟩ b2).setCell ⟨K, 3, none⟩ b3).setCell ⟨K, 4, none⟩ b4).setCell ⟨K, 5, none⟩ b5).setCell ⟨K, 6, none⟩ b6).setCell ⟨K, 7, none⟩ b7).setCell ⟨K, 8, none⟩ b8).setCell ⟨K, 9, none⟩ b9).setCell ⟨K, 10, none⟩ b10).setCell ⟨K, 11, none⟩ b11).setCell ⟨K, 12, none⟩ b12) K #[b0, b1, b2, b3, b4, b5, b6, b7, b8, b9, b10, b11, b12] t ∧ W.grownBy (((((((((((((W.setCell ⟨K, 0, none⟩ b0).setCell ⟨K, 1, none⟩ b1).setCell ⟨K, 2, none⟩ b2).setCell ⟨K, 3, none⟩ b3).setCell ⟨K, 4, none⟩ b4).setCell ⟨K, 5, none⟩ b5).setCell ⟨K, 6, none⟩ b6).setCell ⟨K, 7, none⟩ b7).setCell ⟨K, 8, none⟩ b8).setCell ⟨K, 9, none⟩ b9).setCell ⟨K, 10, none⟩ b10).setCell ⟨K, 11, none⟩ b11).setCell ⟨K, 12, none⟩ b12) (some K) :=
  ⟨by have h7 := (((((((((((((h.set 0 b0).set 1 b1).set 2 b2).set 3 b3).set 4 b4).set 5 b5).set 6 b6).set 7 b7).set 8 b8).set 9 b9).set 10 b10).set 11 b11).set 12 b12); simp only [List.setIfInBounds_toArray, List.set_cons_zero, List.set_cons_succ] at h7; exact h7, ((grown_set _ _ _ _).trans ((grown_set _ _ _ _).trans ((grown_set _ _ _ _).trans ((grown_set _ _ _ _).trans ((grown_set _ _ _ _).trans ((grown_set _ _ _ _).trans ((grown_set _ _ _ _).trans ((grown_set _ _ _ _).trans ((grown_set _ _ _ _).trans ((grown_set _ _ _ _).trans ((grown_set _ _ _ _).trans ((grown_set _ _ _ _).trans (grown_set _ _ _ _)))))))))))))⟩
theorem ImAt.cells {w : World} {g o : Nat} {y : Im} (h : ImAt w g o y) : ∃ (u0 u1 : ByteArray) (l0 l1 : Int) (l2 : Bool) (n0 n1 : Int) (n2 : Bool), w.cell? ⟨g, o, none⟩ = some (.string u0) ∧ w.cell? ⟨g, o + 1, none⟩ = some (.string u1) ∧ w.cell? ⟨g, o + 2, none⟩ = some (.int .i64 y.kind) ∧ w.cell? ⟨g, o + 3, none⟩ = some (.int .i64 y.func) ∧ w.cell? ⟨g, o + 4, none⟩ = some (.int .i64 y.elem) ∧ w.cell? ⟨g, o + 5, none⟩ = some (.int .i64 l0) ∧ w.cell? ⟨g, o + 6, none⟩ = some (.int .i64 l1) ∧ w.cell? ⟨g, o + 7, none⟩ = some (.bool l2) ∧ w.cell? ⟨g, o + 8, none⟩ = some (.int .i64 n0) ∧ w.cell? ⟨g, o + 9, none⟩ = some (.int .i64 n1) ∧ w.cell? ⟨g, o + 10, none⟩ = some (.bool n2) ∧ w.cell? ⟨g, o + 11, none⟩ = some (.int .i64 y.gtyp) ∧ w.cell? ⟨g, o + 12, none⟩ = some (.bool y.gmut) := by
  obtain ⟨u0, u1, l0, l1, l2, n0, n1, n2, h⟩ := h
  exact ⟨u0, u1, l0, l1, l2, n0, n1, n2, h 0 _ rfl, h 1 _ rfl, h 2 _ rfl, h 3 _ rfl, h 4 _ rfl, h 5 _ rfl, h 6 _ rfl, h 7 _ rfl, h 8 _ rfl, h 9 _ rfl, h 10 _ rfl, h 11 _ rfl, h 12 _ rfl⟩
set_option maxHeartbeats 8000000 in
set_option maxRecDepth 100000 in
theorem rnth_any (m : Md) (hf : m.imps.length ≤ 100000) (x : MX) (S : Nat → Prop) (k i : Int) (h0 : -9223372036854775808 ≤ i) (h1 : i ≤ 9223372036854775807) (w : World) (hm : MdRd S w m x) :
    Calls Tryz.prog 203 #[.agg (mdA m x), .int .i64 k, .int .i64 i] w fun e w' => NthOut (Mc.nthI m.imps k i) e ∧ Below w.heap.size w w' := by
  have V := (Var.new w (mdA m x) 33).alloc (.cells imZ 76)
  have V2 := Lib.hid (Var.newE (w.alloc (.cells (mdA m x) 33)) imZ 76 (K := w.heap.size + 1) (by simp))
  have HB := Lib.hid (((Below.refl w.heap.size w).alloc (Nat.le_refl _) (.cells (mdA m x) 33)).alloc (by simp) (.cells imZ 76))
  have c1 := md_cell1 V
  have hm1 := (hm.on HB.out).im
  obtain ⟨l, hl⟩ : ∃ l, m.imps = l := ⟨_, rfl⟩
  rw [hl] at c1 hm1 hf ⊢
  obtain ⟨M, hM⟩ : ∃ M, mdA m x = M := ⟨_, rfl⟩
  rw [hM] at c1 hm1 HB V2 ⊢
  obtain ⟨IA, hIA⟩ : ∃ a, x.IA = a := ⟨_, rfl⟩
  obtain ⟨ic, hic⟩ : ∃ a, x.ic = a := ⟨_, rfl⟩
  rw [hIA, hic] at c1
  rw [hIA] at hm1
  have HM := Lib.hid hm1
  obtain ⟨R, hR⟩ : ∃ R, Mc.nthI l k i = R := ⟨_, rfl⟩
  rw [hR]
  have HR := Lib.hid hR
  have HI := Lib.hid (And.intro h0 h1)
  clear V hm hl hM hIA hic hm1 hR h0 h1
  unfold imZ at V2 HB c1 HM
  go_enter Tryz.func203, Tryz.ntmps203
  go_wp2
  obtain ⟨W, hW⟩ : ∃ W, (w.alloc (.cells M 33)).alloc (.cells #[.string ⟨#[]⟩, .string ⟨#[]⟩, .int .i64 0, .int .i64 0, .int .i64 0, .int .i64 0, .int .i64 0, .bool false, .int .i64 0, .int .i64 0, .bool false, .int .i64 0, .bool false] 76) = W := ⟨_, rfl⟩
  rw [hW] at V2 HB c1 HM
  refine at_code (F := fun X => X = W) (by first | exact hW | trivial) ?_
  clear hW
  intro X hX
  subst hX
  go_loopw [2, 8] (fun zv jv wr => ∃ (j : Nat) (z : Int), zv = .int .i64 z ∧ jv = .int .i64 (j : Int) ∧ j ≤ l.length ∧ X = wr ∧ Hid (-9223372036854775808 ≤ z ∧ z ≤ 9223372036854775807) ∧ Hid (Mc.nthI (l.drop j) k z = R)) (fun _ jv _ => l.length - (intOf jv).toNat)
  case atStart => exact ⟨0, i, rfl, rfl, by omega, rfl, HI, HR⟩
  case round =>
    clear HR HI
    obtain ⟨j, z, rfl, rfl, hj, rfl, HI, HR⟩ := hrel
    by_cases hia : j < l.length
    · have hst := HR.out
      rw [List.drop_eq_getElem_cons hia, Mc.nthI] at hst
      obtain ⟨g, o, rfl, -, hg, ha⟩ := HM.out.get hia
      have x0 : (j : Int) < (l.length : Int) := by omega
      have x1 : (0 : Int) ≤ (j : Int) := by omega
      have HA := Lib.hid ha
      obtain ⟨y, hy⟩ : ∃ y, l[j] = y := ⟨_, rfl⟩
      rw [hy] at HA hst
      clear hy ha
      have f2 : X.cell? ⟨g, o + j * 13 + 2, none⟩ = some (.int .i64 y.kind) := by
        obtain ⟨-, -, -, -, -, -, -, -, -, -, p2, -⟩ := HA.out.cells
        exact p2
      by_cases hk : y.kind = k
      · rw [if_pos hk] at hst
        have y0 : (y.kind != k) = false := by simpa using hk
        by_cases hz : z = 0
        · subst hz
          rw [if_pos rfl] at hst
          have HS := Lib.hid hst
          clear hst HR
          have z := V2.out.froz
          have d := V2.out.cells
          have hlt := V2.out.lt
          obtain ⟨z0, z1, z2, z3, z4, z5, z6, z7, z8, z9, z10, z11, z12⟩ := And.intro (z 0) (And.intro (z 1) (And.intro (z 2) (And.intro (z 3) (And.intro (z 4) (And.intro (z 5) (And.intro (z 6) (And.intro (z 7) (And.intro (z 8) (And.intro (z 9) (And.intro (z 10) (And.intro (z 11) (z 12))))))))))))
          obtain ⟨u0, u1, l0, l1, l2, n0, n1, n2, p0, p1, p2, p3, p4, p5, p6, p7, p8, p9, p10, p11, p12⟩ := HA.out.cells
          clear z f2 hk HA
          go_wp2
          refine bodyPost_ret (results_cell_row_tmp rfl _ _ (w.heap.size + 1) _ _ (0, 0) _ rfl (put13 V2.out _ _ _ _ _ _ _ _ _ _ _ _ _).1 Tryz.underlying76 rfl (by kernel_rfl)) rfl ?_
          refine ⟨by rw [← HS.out]; exact ⟨_, ⟨u0, u1, l0, l1, l2, n0, n1, n2, rfl⟩, rfl⟩, below_grown HB.out (put13 V2.out _ _ _ _ _ _ _ _ _ _ _ _ _).2 HB.out.size (by omega)⟩
        · rw [if_neg hz] at hst
          have y1 : (z == 0) = false := by simpa using hz
          obtain ⟨e1, e2, e3⟩ := Mc.nthI_wrap (l := l.drop (j + 1)) (k := k) (z := z) (by rw [List.length_drop]; omega) HI.out.1 HI.out.2
          have HS := Lib.hid (e1.trans hst)
          have HI2 := Lib.hid (And.intro e2 e3)
          clear hst HR e1 e2 e3 HI
          go_wp2
          go_roundw
          case rel => exact ⟨j + 1, IntKind.i64.wrap (z - 1), by first | rfl | (rw [i64_left]) | (rw [Go.IntWalk.i64_left]), by go_num, by omega, by trivial, HI2, HS⟩
          case measure => simp [intOf] <;> omega
      · rw [if_neg hk] at hst
        have y0 : (y.kind != k) = true := by simpa using hk
        have HS := Lib.hid hst
        clear hst HR
        go_wp2
        go_roundw
        case rel => exact ⟨j + 1, z, rfl, by go_num, by omega, by trivial, HI, HS⟩
        case measure => simp [intOf] <;> omega
    · obtain rfl : j = l.length := by omega
      have hst := HR.out
      rw [List.drop_length, Mc.nthI] at hst
      have HS := Lib.hid hst
      clear hst HR HI
      have z := V2.out.froz
      have hlt := V2.out.lt
      have d := V2.out.cells
      obtain ⟨z0, z1, z2, z3, z4, z5, z6, z7, z8, z9, z10, z11, z12⟩ := And.intro (z 0) (And.intro (z 1) (And.intro (z 2) (And.intro (z 3) (And.intro (z 4) (And.intro (z 5) (And.intro (z 6) (And.intro (z 7) (And.intro (z 8) (And.intro (z 9) (And.intro (z 10) (And.intro (z 11) (z 12))))))))))))
      go_wp2
      refine bodyPost_ret (results_cell_row_tmp rfl _ _ (w.heap.size + 1) _ _ (0, 0) _ rfl (put13 V2.out _ _ _ _ _ _ _ _ _ _ _ _ _).1 Tryz.underlying76 rfl (by kernel_rfl)) rfl ?_
      refine ⟨by rw [← HS.out]; exact ⟨_, ⟨⟨0, 0, 0, 0, false⟩, ⟨⟨#[]⟩, ⟨#[]⟩, 0, 0, false, 0, 0, false, rfl⟩⟩, rfl⟩, below_grown HB.out (put13 V2.out _ _ _ _ _ _ _ _ _ _ _ _ _).2 HB.out.size (by omega)⟩
end Go.Proofs.YtadnfekogmjieaaGreatDoor
set_option linter.unusedVariables false
set_option linter.unusedSimpArgs false
namespace Go.Proofs.YtadnfekogmjieaaGreatDoor
open Go.RowKit
open Mc (Im Md)
structure R2 (S : Nat → Prop) (w W : World) (m : Md) (x : MX) (mv rv : Array Value) (T : TypeId) : Prop where
  bel : Below w.heap.size w W
  md : Var W w.heap.size mv 33
  rs : Var W (w.heap.size + 1) rv T
  ml : MdL S W m x
section
variable {S : Nat → Prop} {w W W' : World} {m : Md} {x : MX} {mv rv : Array Value} {T : TypeId}
theorem R2.new (hm : MdL S w m x) : R2 S w ((w.alloc (.cells mv 33)).alloc (.cells rv T)) m x mv rv T :=
  ⟨((Below.refl w.heap.size w).alloc (Nat.le_refl _) _).alloc (by simp) _, (Var.new w _ _).alloc _, by have h := Var.new (w.alloc (.cells mv 33)) rv T; simpa using h, hm.on (((Below.refl w.heap.size w).alloc (Nat.le_refl _) _).alloc (by simp) _)⟩
theorem R2.below (h : R2 S w W m x mv rv T) (hb : Below W.heap.size W W') : R2 S w W' m x mv rv T := ⟨h.bel.trans (hb.mono h.bel.size), var_keep h.md hb, var_keep h.rs hb, h.ml.on hb⟩
end
structure R1 (S : Nat → Prop) (w W : World) (m : Md) (x : MX) (mv : Array Value) : Prop where
  bel : Below w.heap.size w W
  md : Var W w.heap.size mv 33
  ml : MdL S W m x
section
variable {S : Nat → Prop} {w W W' : World} {m : Md} {x : MX} {mv : Array Value}
theorem R1.new (hm : MdL S w m x) : R1 S w (w.alloc (.cells mv 33)) m x mv :=
  ⟨(Below.refl w.heap.size w).alloc (Nat.le_refl _) _, Var.new w _ _, hm.on ((Below.refl w.heap.size w).alloc (Nat.le_refl _) _)⟩
theorem R1.below (h : R1 S w W m x mv) (hb : Below W.heap.size W W') : R1 S w W' m x mv := ⟨h.bel.trans (hb.mono h.bel.size), var_keep h.md hb, h.ml.on hb⟩
end
set_option maxHeartbeats 8000000 in
set_option maxRecDepth 100000 in
theorem rown_any (m : Md) (hf : m.imps.length ≤ 100000) (x : MX) (ho : x.One) (S : Nat → Prop) (k i : Int) (h1 : i ≤ 9223372036854775807) (n : Nat) (w : World) (hm : MdL S w m x) :
    Calls Tryz.prog 204 #[.agg (mdA m x), .int .i64 k, .int .i64 i, .int .i64 (n : Int)] w fun e w' => e = .returned (.int .i64 (Mc.ownI (Mc.impN m.imps k) i n)) ∧ Below w.heap.size w w' := by
  obtain ⟨R, hR⟩ : ∃ R, Mc.ownI (Mc.impN m.imps k) i n = R := ⟨_, rfl⟩
  rw [hR]
  unfold Mc.ownI at hR
  have hle := Mc.impN_le m.imps k
  have HI := Lib.hid (fun W (h : MdL S W m x) => rimported_any m hf x S k W h.rd)
  obtain ⟨c, hc⟩ : ∃ c, Mc.impN m.imps k = c := ⟨_, rfl⟩
  simp only [hc] at HI hle hR
  unfold mdA at HI
  have I := Lib.hid (R1.new (mv := mdA m x) hm)
  have hc2 : (c : Int) ≤ 100000 := by omega
  clear hm hc ho hf hle
  by_cases h0 : i < 0
  · rw [if_pos h0] at hR
    obtain rfl := hR
    go_enter Tryz.func204, Tryz.ntmps204
    go_wp2
    go_ret
    exact ⟨rfl, I.out.bel⟩
  rw [if_neg h0] at hR
  have x0 : 0 ≤ i := by omega
  have wi : IntKind.i64.wrap (i - (c : Int)) = i - (c : Int) := by rw [IntKind.wrap_i64]; omega
  by_cases h2 : i - (c : Int) < 0
  · rw [if_pos (.inl h2)] at hR
    obtain rfl := hR
    obtain ⟨⟨g0, g1, g2, g3, g4, g5⟩, g6, g7, g8, g9, g10, g11⟩ := mdA_cells I.out.md
    go_enter Tryz.func204, Tryz.ntmps204
    go_wp2_with (go_at_call 201; refine (HI.out _ I.out.ml).mono ?_; rintro e w1 ⟨rfl, hb⟩; have I1 := Lib.hid (I.out.below hb))
    go_ret
    exact ⟨rfl, I1.out.bel⟩
  by_cases h3 : (n : Int) ≤ i - (c : Int)
  · rw [if_pos (.inr h3)] at hR
    obtain rfl := hR
    obtain ⟨⟨g0, g1, g2, g3, g4, g5⟩, g6, g7, g8, g9, g10, g11⟩ := mdA_cells I.out.md
    go_enter Tryz.func204, Tryz.ntmps204
    go_wp2_with (go_at_call 201; refine (HI.out _ I.out.ml).mono ?_; rintro e w1 ⟨rfl, hb⟩; have I1 := Lib.hid (I.out.below hb))
    go_ret
    exact ⟨rfl, I1.out.bel⟩
  rw [if_neg (by omega)] at hR
  obtain rfl := hR
  obtain ⟨⟨g0, g1, g2, g3, g4, g5⟩, g6, g7, g8, g9, g10, g11⟩ := mdA_cells I.out.md
  go_enter Tryz.func204, Tryz.ntmps204
  go_wp2_with (go_at_call 201; refine (HI.out _ I.out.ml).mono ?_; rintro e w1 ⟨rfl, hb⟩; have I1 := Lib.hid (I.out.below hb))
  go_ret
  exact ⟨rfl, I1.out.bel⟩
set_option maxHeartbeats 8000000 in
set_option maxRecDepth 100000 in
theorem rtype_any (m : Md) (hf : m.imps.length ≤ 100000) (x : MX) (ho : x.One) (S : Nat → Prop) (i : Int) (w : World) (hm : MdL S w m x) :
    Calls Tryz.prog 158 #[.agg (mdA m x), .int .i64 i] w fun e w' => SgOut (Mc.lensO (Mc.ent m.types i)) e ∧ Below w.heap.size w w' := by
  obtain ⟨R, hR⟩ : ∃ R, Mc.lensO (Mc.ent m.types i) = R := ⟨_, rfl⟩
  rw [hR]
  have I0 := Lib.hid (R2.new (mv := mdA m x) (rv := #[.slice none 0 0, .slice none 0 0]) (T := 36) hm)
  clear hm
  go_enter Tryz.func158, Tryz.ntmps158
  go_upto_region 1 with fail
  refine at_code (F := fun W => Hid (R2 S w W m x (mdA m x) #[.slice none 0 0, .slice none 0 0] 36)) I0 ?_
  clear I0
  intro W I
  obtain ⟨⟨g0, -⟩, -⟩ := mdA_cells I.out.md
  obtain ⟨q0, q1⟩ := cells2 I.out.rs
  have z0 := I.out.rs.froz 0
  have z1 := I.out.rs.froz 1
  have hlt := I.out.rs.lt
  rcases he : Mc.ent m.types i with _ | f
  · rw [he] at hR
    replace hR : ((0, 0), false) = R := hR
    obtain rfl := hR
    have hin := Mc.ent_none he
    unfold Mc.inL Mc.within at hin
    clear he
    by_cases h0 : i < 0
    · skip
      clear hin
      go_wp2_with fail
      refine bodyPost_ret (results_cell_row_tmp rfl _ _ (w.heap.size + 1) _ _ (0, 0) _ rfl (by first | exact I.out.rs | exact ((I.out.rs.set 0 _).set 1 _)) Tryz.underlying36 rfl (by kernel_rfl)) rfl ?_
      exact ⟨⟨_, _, _, _, rfl⟩, by first | exact I.out.bel | exact below_set I.out.bel (by omega) _ _⟩
    · have x0 : (m.types.length : Int) ≤ i := by
        rcases Int.lt_or_le i (m.types.length : Int) with h | h
        · simp at hin; omega
        · exact h
      clear hin
      go_wp2_with fail
      refine bodyPost_ret (results_cell_row_tmp rfl _ _ (w.heap.size + 1) _ _ (0, 0) _ rfl (by first | exact I.out.rs | exact ((I.out.rs.set 0 _).set 1 _)) Tryz.underlying36 rfl (by kernel_rfl)) rfl ?_
      exact ⟨⟨_, _, _, _, rfl⟩, by first | exact I.out.bel | exact below_set I.out.bel (by omega) _ _⟩
  · rw [he] at hR
    replace hR : ((f.1.length, f.2.length), true) = R := hR
    obtain rfl := hR
    obtain ⟨hin, k, rfl, hk, hf2⟩ := Mc.ent_some he
    obtain ⟨g, o, ha, -, hg, hty⟩ := I.out.ml.ty.get hk
    rw [hf2] at hty
    rw [ha] at g0
    obtain ⟨A, c, B, d, f0, f1⟩ := hty
    have x0 : ¬ (k : Int) < 0 := by omega
    have x2 : (0 : Int) ≤ (k : Int) := by omega
    have x1 : (k : Int) < (m.types.length : Int) := by omega
    have x3 : ¬ (m.types.length : Int) ≤ (k : Int) := by omega
    clear he hf2 hin
    go_wp2_with fail
    refine bodyPost_ret (results_cell_row_tmp rfl _ _ (w.heap.size + 1) _ _ (0, 0) _ rfl ((I.out.rs.set 0 _).set 1 _) Tryz.underlying36 rfl (by kernel_rfl)) rfl ?_
    exact ⟨⟨_, _, _, _, rfl⟩, below_set I.out.bel (by omega) _ _⟩
set_option maxHeartbeats 8000000 in
set_option maxRecDepth 100000 in
theorem relem_any (m : Md) (hf : m.imps.length ≤ 100000) (x : MX) (ho : x.One) (S : Nat → Prop) (i : Int) (w : World) (hm : MdL S w m x) :
    Calls Tryz.prog 155 #[.agg (mdA m x), .int .i64 i] w fun e w' => (∃ z : Int, e = .returned (.tuple #[.int .i64 z, .bool (Mc.inL i m.elems)])) ∧ Below w.heap.size w w' := by
  obtain ⟨R, hR⟩ : ∃ R, Mc.inL i m.elems = R := ⟨_, rfl⟩
  rw [hR]
  have I0 := Lib.hid (R1.new (mv := mdA m x) hm)
  clear hm
  go_enter Tryz.func155, Tryz.ntmps155
  go_upto_region 1 with fail
  refine at_code (F := fun W => Hid (R1 S w W m x (mdA m x))) I0 ?_
  clear I0
  intro W I
  obtain ⟨-, -, -, -, g9, -⟩ := mdA_cells I.out.md
  unfold Mc.inL Mc.within at hR
  by_cases h0 : i < 0
  · have hr : R = false := by rw [← hR]; simp; omega
    subst hr
    clear hR
    go_wp2_with fail
    go_ret2
    exact ⟨⟨_, rfl⟩, I.out.bel⟩
  by_cases h1 : (m.elems : Int) ≤ i
  · have hr : R = false := by rw [← hR]; simp; omega
    subst hr
    clear hR
    go_wp2_with fail
    go_ret2
    exact ⟨⟨_, rfl⟩, I.out.bel⟩
  have hr : R = true := by rw [← hR]; simp; omega
  subst hr
  clear hR
  obtain ⟨k, rfl⟩ : ∃ k : Nat, i = (k : Int) := ⟨i.toNat, by omega⟩
  obtain ⟨l, hl, hrd⟩ := I.out.ml.el
  rw [← hl] at h1 g9
  have hk : k < l.length := by omega
  obtain ⟨g, o, ha, -, hg, hty⟩ := hrd.get hk
  rw [ha] at g9
  obtain ⟨A, n, c, B, d, l2, -, -, -, z, f3⟩ := hty
  have x2 : (0 : Int) ≤ (k : Int) := by omega
  have x1 : (k : Int) < (l.length : Int) := by omega
  clear hrd
  go_wp2_with fail
  go_ret2
  exact ⟨⟨_, rfl⟩, I.out.bel⟩
def TabOut (o : Option Int) (e : Ending) : Prop := match o with | some z => ∃ a b d, e = .returned (.tuple #[.agg #[.int .i64 z, .int .i64 a, .int .i64 b, .bool d], .bool true]) | none => ∃ z a b d, e = .returned (.tuple #[.agg #[.int .i64 z, .int .i64 a, .int .i64 b, .bool d], .bool false])
def GloOut (o : Option (Int × Bool)) (e : Ending) : Prop := match o with | some z => e = .returned (.tuple #[.agg #[.int .i64 z.1, .bool z.2], .bool true]) | none => ∃ z d, e = .returned (.tuple #[.agg #[.int .i64 z, .bool d], .bool false])
theorem putq {W : World} {K : Nat} {t : TypeId} {a0 a1 a2 a3 : Value} (h : Var W K #[a0, a1, a2, a3] t) (b0 b1 b2 b3 : Value) :
    Var ((((W.setCell ⟨K, 0, none⟩ b0).setCell ⟨K, 1, none⟩ b1).setCell ⟨K, 2, none⟩ b2).setCell ⟨K, 3, none⟩ b3) K #[b0, b1, b2, b3] t ∧
    W.grownBy ((((W.setCell ⟨K, 0, none⟩ b0).setCell ⟨K, 1, none⟩ b1).setCell ⟨K, 2, none⟩ b2).setCell ⟨K, 3, none⟩ b3) (some K) :=
  ⟨by have h7 := (((h.set 0 b0).set 1 b1).set 2 b2).set 3 b3; simp only [List.setIfInBounds_toArray, List.set_cons_zero, List.set_cons_succ] at h7; exact h7,
   (grown_set _ _ _ _).trans ((grown_set _ _ _ _).trans ((grown_set _ _ _ _).trans (grown_set _ _ _ _)))⟩
set_option maxHeartbeats 8000000 in
set_option maxRecDepth 100000 in
theorem rtable8_any (m : Md) (hf : m.imps.length ≤ 100000) (x : MX) (ho : x.One) (S : Nat → Prop) (i : Int) (h0 : -9223372036854775808 ≤ i) (h1 : i ≤ 9223372036854775807) (w : World) (hm : MdL S w m x) :
    Calls Tryz.prog 159 #[.agg (mdA m x), .int .i64 i] w fun e w' => TabOut (Mc.ent (Mc.thOf m).tables i) e ∧ Below w.heap.size w w' := by
  obtain ⟨R, hR⟩ : ∃ R, Mc.ent (Mc.thOf m).tables i = R := ⟨_, rfl⟩
  rw [hR]
  have HN := Lib.hid (fun W (h : MdL S W m x) => rnth_any m hf x S 1 i h0 h1 W h.rd)
  have HO := Lib.hid (fun W (h : MdL S W m x) => rown_any m hf x ho S 1 i h1 m.tables.length W h)
  have I0 := Lib.hid (R2.new (mv := mdA m x) (rv := #[.int .i64 0, .int .i64 0, .int .i64 0, .bool false]) (T := 72) hm)
  unfold mdA at HN HO
  clear hm ho h0 h1
  rcases hn : Mc.nthI m.imps 1 i with _ | y
  · simp only [hn] at HN
    rcases Mc.own_cases (Mc.impN m.imps 1) i m.tables.length with hw | ⟨j, hj, hw⟩
    · rw [Mc.tab_no hn hw] at hR
      obtain rfl := hR
      simp only [hw] at HO
      clear hn hw
      go_enter Tryz.func159, Tryz.ntmps159
      go_upto_region 1 with fail
      refine at_code (F := fun W => Hid (R2 S w W m x (mdA m x) #[.int .i64 0, .int .i64 0, .int .i64 0, .bool false] 72)) I0 ?_
      clear I0
      intro W I
      obtain ⟨⟨g0, g1, g2, g3, g4, g5⟩, g6, g7, g8, g9, g10, g11⟩ := mdA_cells I.out.md
      go_upto_region 2 with (go_at_call 203; refine (HN.out _ I.out.ml).mono ?_; rintro e w1 ⟨⟨v, ⟨y, u0, u1, l0, l1, l2, n0, n1, n2, rfl⟩, rfl⟩, hb⟩; have I1 := Lib.hid (I.out.below hb))
      refine at_code (F := fun W => Hid (R2 S w W m x (mdA m x) #[.int .i64 0, .int .i64 0, .int .i64 0, .bool false] 72) ∧ Hid (Var W w1.heap.size #[.string u0, .string u1, .int .i64 y.kind, .int .i64 y.func, .int .i64 y.elem, .int .i64 l0, .int .i64 l1, .bool l2, .int .i64 n0, .int .i64 n1, .bool n2, .int .i64 y.gtyp, .bool y.gmut] 76)) ⟨Lib.hid (I1.out.below ((Below.refl _ _).alloc (Nat.le_refl _) _)), Lib.hid (Var.new _ _ _)⟩ ?_
      clear I I1 hb HN g0 g1 g2 g3 g4 g5 g6 g7 g8 g9 g10 g11
      obtain ⟨K, hK⟩ : ∃ K, w1.heap.size = K := ⟨_, rfl⟩
      simp only [hK]
      clear hK
      rintro W ⟨I, HV⟩
      obtain ⟨⟨g0, g1, g2, g3, g4, g5⟩, g6, g7, g8, g9, g10, g11⟩ := mdA_cells I.out.md
      obtain ⟨⟨q0, q1, q2, q3⟩, z0, z1, z2, z3⟩ := cells4' I.out.rs
      have hlt := I.out.rs.lt
      have hb0 : (decide ((0 : Int) ≤ -1)) = false := rfl
      go_wp2_with (go_at_call 204; refine (HO.out _ I.out.ml).mono ?_; rintro e w2 ⟨rfl, hb⟩; have I2 := Lib.hid (I.out.below hb); clear hb g0 g1 g2 g3 g4 g5 g6 g7 g8 g9 g10 g11 q0 q1 z0 z1 hlt q2 q3 z2 z3; obtain ⟨⟨g0, g1, g2, g3, g4, g5⟩, g6, g7, g8, g9, g10, g11⟩ := mdA_cells I2.out.md; obtain ⟨⟨q0, q1, q2, q3⟩, z0, z1, z2, z3⟩ := cells4' I2.out.rs; have hlt := I2.out.rs.lt)
      refine bodyPost_ret (results_cell_row_tmp rfl _ _ (w.heap.size + 1) _ _ (0, 0) _ rfl (by first | exact (putq I2.out.rs _ _ _ _).1 | exact I2.out.rs) Tryz.underlying72 rfl (by kernel_rfl)) rfl ?_
      exact ⟨⟨_, _, _, _, rfl⟩, by first | exact below_grown I2.out.bel (putq I2.out.rs _ _ _ _).2 I2.out.bel.size (by omega) | exact I2.out.bel⟩
    · rw [Mc.tab_own hn hj hw] at hR
      simp only [hw] at HO
      obtain ⟨v0, hv⟩ : ∃ v, m.tables[j] = v := ⟨_, rfl⟩
      rw [hv] at hR
      clear hn hw
      obtain rfl := hR
      go_enter Tryz.func159, Tryz.ntmps159
      go_upto_region 1 with fail
      refine at_code (F := fun W => Hid (R2 S w W m x (mdA m x) #[.int .i64 0, .int .i64 0, .int .i64 0, .bool false] 72)) I0 ?_
      clear I0
      intro W I
      obtain ⟨⟨g0, g1, g2, g3, g4, g5⟩, g6, g7, g8, g9, g10, g11⟩ := mdA_cells I.out.md
      go_upto_region 2 with (go_at_call 203; refine (HN.out _ I.out.ml).mono ?_; rintro e w1 ⟨⟨v, ⟨y, u0, u1, l0, l1, l2, n0, n1, n2, rfl⟩, rfl⟩, hb⟩; have I1 := Lib.hid (I.out.below hb))
      refine at_code (F := fun W => Hid (R2 S w W m x (mdA m x) #[.int .i64 0, .int .i64 0, .int .i64 0, .bool false] 72) ∧ Hid (Var W w1.heap.size #[.string u0, .string u1, .int .i64 y.kind, .int .i64 y.func, .int .i64 y.elem, .int .i64 l0, .int .i64 l1, .bool l2, .int .i64 n0, .int .i64 n1, .bool n2, .int .i64 y.gtyp, .bool y.gmut] 76)) ⟨Lib.hid (I1.out.below ((Below.refl _ _).alloc (Nat.le_refl _) _)), Lib.hid (Var.new _ _ _)⟩ ?_
      clear I I1 hb HN g0 g1 g2 g3 g4 g5 g6 g7 g8 g9 g10 g11
      obtain ⟨K, hK⟩ : ∃ K, w1.heap.size = K := ⟨_, rfl⟩
      simp only [hK]
      clear hK
      rintro W ⟨I, HV⟩
      obtain ⟨⟨g0, g1, g2, g3, g4, g5⟩, g6, g7, g8, g9, g10, g11⟩ := mdA_cells I.out.md
      obtain ⟨⟨q0, q1, q2, q3⟩, z0, z1, z2, z3⟩ := cells4' I.out.rs
      have hlt := I.out.rs.lt
      go_upto_region 6 with (go_at_call 204; refine (HO.out _ I.out.ml).mono ?_; rintro e w2 ⟨rfl, hb⟩; have I2 := Lib.hid (I.out.below hb); clear hb g0 g1 g2 g3 g4 g5 g6 g7 g8 g9 g10 g11 q0 q1 z0 z1 hlt q2 q3 z2 z3; obtain ⟨⟨g0, g1, g2, g3, g4, g5⟩, g6, g7, g8, g9, g10, g11⟩ := mdA_cells I2.out.md; obtain ⟨⟨q0, q1, q2, q3⟩, z0, z1, z2, z3⟩ := cells4' I2.out.rs; have hlt := I2.out.rs.lt)
      have x0 : (0 : Int) ≤ (j : Int) := by omega
      have x1 : (j : Int) < (m.tables.length : Int) := by omega
      obtain ⟨g, o, ha, -, hg, hty⟩ := I2.out.ml.tb.get hj
      rw [ha] at g3
      rw [hv] at hty
      obtain ⟨a1, a2, a3, f0, f1, f2, f3⟩ := hty
      clear hv
      go_wp2_with fail
      refine bodyPost_ret (results_cell_row_tmp rfl _ _ (w.heap.size + 1) _ _ (0, 0) _ rfl (by first | exact (putq I2.out.rs _ _ _ _).1 | exact I2.out.rs) Tryz.underlying72 rfl (by kernel_rfl)) rfl ?_
      exact ⟨⟨_, _, _, rfl⟩, by first | exact below_grown I2.out.bel (putq I2.out.rs _ _ _ _).2 I2.out.bel.size (by omega) | exact I2.out.bel⟩
  · simp only [hn] at HN
    rw [Mc.tab_imp hn] at hR
    obtain rfl := hR
    clear HO hn
    go_enter Tryz.func159, Tryz.ntmps159
    go_upto_region 1 with fail
    refine at_code (F := fun W => Hid (R2 S w W m x (mdA m x) #[.int .i64 0, .int .i64 0, .int .i64 0, .bool false] 72)) I0 ?_
    clear I0
    intro W I
    obtain ⟨⟨g0, g1, g2, g3, g4, g5⟩, g6, g7, g8, g9, g10, g11⟩ := mdA_cells I.out.md
    go_upto_region 2 with (go_at_call 203; refine (HN.out _ I.out.ml).mono ?_; rintro e w1 ⟨⟨v, ⟨u0, u1, l0, l1, l2, n0, n1, n2, rfl⟩, rfl⟩, hb⟩; have I1 := Lib.hid (I.out.below hb))
    refine at_code (F := fun W => Hid (R2 S w W m x (mdA m x) #[.int .i64 0, .int .i64 0, .int .i64 0, .bool false] 72) ∧ Hid (Var W w1.heap.size #[.string u0, .string u1, .int .i64 y.kind, .int .i64 y.func, .int .i64 y.elem, .int .i64 l0, .int .i64 l1, .bool l2, .int .i64 n0, .int .i64 n1, .bool n2, .int .i64 y.gtyp, .bool y.gmut] 76)) ⟨Lib.hid (I1.out.below ((Below.refl _ _).alloc (Nat.le_refl _) _)), Lib.hid (Var.new _ _ _)⟩ ?_
    clear I I1 hb HN g0 g1 g2 g3 g4 g5 g6 g7 g8 g9 g10 g11
    obtain ⟨K, hK⟩ : ∃ K, w1.heap.size = K := ⟨_, rfl⟩
    simp only [hK]
    clear hK
    rintro W ⟨I, HV⟩
    obtain ⟨⟨g0, g1, g2, g3, g4, g5⟩, g6, g7, g8, g9, g10, g11⟩ := mdA_cells I.out.md
    obtain ⟨⟨q0, q1, q2, q3⟩, z0, z1, z2, z3⟩ := cells4' I.out.rs
    have hlt := I.out.rs.lt
    have p4 := HV.out.cells 4
    have p5 := HV.out.cells 5
    have p6 := HV.out.cells 6
    have p7 := HV.out.cells 7
    go_wp2_with fail
    refine bodyPost_ret (results_cell_row_tmp rfl _ _ (w.heap.size + 1) _ _ (0, 0) _ rfl (by first | exact (putq I.out.rs _ _ _ _).1 | exact I.out.rs) Tryz.underlying72 rfl (by kernel_rfl)) rfl ?_
    exact ⟨⟨_, _, _, rfl⟩, by first | exact below_grown I.out.bel (putq I.out.rs _ _ _ _).2 I.out.bel.size (by omega) | exact I.out.bel⟩
set_option maxHeartbeats 8000000 in
set_option maxRecDepth 100000 in
theorem rglobal8_any (m : Md) (hf : m.imps.length ≤ 100000) (x : MX) (ho : x.One) (S : Nat → Prop) (i : Int) (h0 : -9223372036854775808 ≤ i) (h1 : i ≤ 9223372036854775807) (w : World) (hm : MdL S w m x) :
    Calls Tryz.prog 156 #[.agg (mdA m x), .int .i64 i] w fun e w' => GloOut (Mc.ent (Mc.thOf m).globals i) e ∧ Below w.heap.size w w' := by
  obtain ⟨R, hR⟩ : ∃ R, Mc.ent (Mc.thOf m).globals i = R := ⟨_, rfl⟩
  rw [hR]
  have HN := Lib.hid (fun W (h : MdL S W m x) => rnth_any m hf x S 3 i h0 h1 W h.rd)
  have HO := Lib.hid (fun W (h : MdL S W m x) => rown_any m hf x ho S 3 i h1 m.globals.length W h)
  have I0 := Lib.hid (R2.new (mv := mdA m x) (rv := #[.int .i64 0, .bool false]) (T := 74) hm)
  unfold mdA at HN HO
  clear hm ho h0 h1
  rcases hn : Mc.nthI m.imps 3 i with _ | y
  · simp only [hn] at HN
    rcases Mc.own_cases (Mc.impN m.imps 3) i m.globals.length with hw | ⟨j, hj, hw⟩
    · rw [Mc.glo_no hn hw] at hR
      obtain rfl := hR
      simp only [hw] at HO
      clear hn hw
      go_enter Tryz.func156, Tryz.ntmps156
      go_upto_region 1 with fail
      refine at_code (F := fun W => Hid (R2 S w W m x (mdA m x) #[.int .i64 0, .bool false] 74)) I0 ?_
      clear I0
      intro W I
      obtain ⟨⟨g0, g1, g2, g3, g4, g5⟩, g6, g7, g8, g9, g10, g11⟩ := mdA_cells I.out.md
      go_upto_region 2 with (go_at_call 203; refine (HN.out _ I.out.ml).mono ?_; rintro e w1 ⟨⟨v, ⟨y, u0, u1, l0, l1, l2, n0, n1, n2, rfl⟩, rfl⟩, hb⟩; have I1 := Lib.hid (I.out.below hb))
      refine at_code (F := fun W => Hid (R2 S w W m x (mdA m x) #[.int .i64 0, .bool false] 74) ∧ Hid (Var W w1.heap.size #[.string u0, .string u1, .int .i64 y.kind, .int .i64 y.func, .int .i64 y.elem, .int .i64 l0, .int .i64 l1, .bool l2, .int .i64 n0, .int .i64 n1, .bool n2, .int .i64 y.gtyp, .bool y.gmut] 76)) ⟨Lib.hid (I1.out.below ((Below.refl _ _).alloc (Nat.le_refl _) _)), Lib.hid (Var.new _ _ _)⟩ ?_
      clear I I1 hb HN g0 g1 g2 g3 g4 g5 g6 g7 g8 g9 g10 g11
      obtain ⟨K, hK⟩ : ∃ K, w1.heap.size = K := ⟨_, rfl⟩
      simp only [hK]
      clear hK
      rintro W ⟨I, HV⟩
      obtain ⟨⟨g0, g1, g2, g3, g4, g5⟩, g6, g7, g8, g9, g10, g11⟩ := mdA_cells I.out.md
      obtain ⟨q0, q1⟩ := cells2 I.out.rs
      have z0 := I.out.rs.froz 0
      have z1 := I.out.rs.froz 1
      have hlt := I.out.rs.lt
      have hb0 : (decide ((0 : Int) ≤ -1)) = false := rfl
      go_wp2_with (go_at_call 204; refine (HO.out _ I.out.ml).mono ?_; rintro e w2 ⟨rfl, hb⟩; have I2 := Lib.hid (I.out.below hb); clear hb g0 g1 g2 g3 g4 g5 g6 g7 g8 g9 g10 g11 q0 q1 z0 z1 hlt; obtain ⟨⟨g0, g1, g2, g3, g4, g5⟩, g6, g7, g8, g9, g10, g11⟩ := mdA_cells I2.out.md; obtain ⟨q0, q1⟩ := cells2 I2.out.rs; have z0 := I2.out.rs.froz 0; have z1 := I2.out.rs.froz 1; have hlt := I2.out.rs.lt)
      refine bodyPost_ret (results_cell_row_tmp rfl _ _ (w.heap.size + 1) _ _ (0, 0) _ rfl (by first | exact (((I2.out.rs).set 0 _).set 1 _) | exact I2.out.rs) Tryz.underlying74 rfl (by kernel_rfl)) rfl ?_
      exact ⟨⟨_, _, rfl⟩, by first | exact below_set I2.out.bel (by omega) _ _ | exact I2.out.bel⟩
    · rw [Mc.glo_own hn hj hw] at hR
      simp only [hw] at HO
      obtain ⟨v0, hv⟩ : ∃ v, m.globals[j] = v := ⟨_, rfl⟩
      rw [hv] at hR
      clear hn hw
      obtain rfl := hR
      go_enter Tryz.func156, Tryz.ntmps156
      go_upto_region 1 with fail
      refine at_code (F := fun W => Hid (R2 S w W m x (mdA m x) #[.int .i64 0, .bool false] 74)) I0 ?_
      clear I0
      intro W I
      obtain ⟨⟨g0, g1, g2, g3, g4, g5⟩, g6, g7, g8, g9, g10, g11⟩ := mdA_cells I.out.md
      go_upto_region 2 with (go_at_call 203; refine (HN.out _ I.out.ml).mono ?_; rintro e w1 ⟨⟨v, ⟨y, u0, u1, l0, l1, l2, n0, n1, n2, rfl⟩, rfl⟩, hb⟩; have I1 := Lib.hid (I.out.below hb))
      refine at_code (F := fun W => Hid (R2 S w W m x (mdA m x) #[.int .i64 0, .bool false] 74) ∧ Hid (Var W w1.heap.size #[.string u0, .string u1, .int .i64 y.kind, .int .i64 y.func, .int .i64 y.elem, .int .i64 l0, .int .i64 l1, .bool l2, .int .i64 n0, .int .i64 n1, .bool n2, .int .i64 y.gtyp, .bool y.gmut] 76)) ⟨Lib.hid (I1.out.below ((Below.refl _ _).alloc (Nat.le_refl _) _)), Lib.hid (Var.new _ _ _)⟩ ?_
      clear I I1 hb HN g0 g1 g2 g3 g4 g5 g6 g7 g8 g9 g10 g11
      obtain ⟨K, hK⟩ : ∃ K, w1.heap.size = K := ⟨_, rfl⟩
      simp only [hK]
      clear hK
      rintro W ⟨I, HV⟩
      obtain ⟨⟨g0, g1, g2, g3, g4, g5⟩, g6, g7, g8, g9, g10, g11⟩ := mdA_cells I.out.md
      obtain ⟨q0, q1⟩ := cells2 I.out.rs
      have z0 := I.out.rs.froz 0
      have z1 := I.out.rs.froz 1
      have hlt := I.out.rs.lt
      go_upto_region 6 with (go_at_call 204; refine (HO.out _ I.out.ml).mono ?_; rintro e w2 ⟨rfl, hb⟩; have I2 := Lib.hid (I.out.below hb); clear hb g0 g1 g2 g3 g4 g5 g6 g7 g8 g9 g10 g11 q0 q1 z0 z1 hlt; obtain ⟨⟨g0, g1, g2, g3, g4, g5⟩, g6, g7, g8, g9, g10, g11⟩ := mdA_cells I2.out.md; obtain ⟨q0, q1⟩ := cells2 I2.out.rs; have z0 := I2.out.rs.froz 0; have z1 := I2.out.rs.froz 1; have hlt := I2.out.rs.lt)
      have x0 : (0 : Int) ≤ (j : Int) := by omega
      have x1 : (j : Int) < (m.globals.length : Int) := by omega
      obtain ⟨g, o, ha, -, hg, hty⟩ := I2.out.ml.gl.get hj
      rw [ha] at g5
      rw [hv] at hty
      obtain ⟨a1, a2, a3, ⟨f0, f1, -⟩, -⟩ := hty
      clear hv
      go_wp2_with fail
      refine bodyPost_ret (results_cell_row_tmp rfl _ _ (w.heap.size + 1) _ _ (0, 0) _ rfl (by first | exact (((I2.out.rs).set 0 _).set 1 _) | exact I2.out.rs) Tryz.underlying74 rfl (by kernel_rfl)) rfl ?_
      exact ⟨rfl, by first | exact below_set I2.out.bel (by omega) _ _ | exact I2.out.bel⟩
  · simp only [hn] at HN
    rw [Mc.glo_imp hn] at hR
    obtain rfl := hR
    clear HO hn
    go_enter Tryz.func156, Tryz.ntmps156
    go_upto_region 1 with fail
    refine at_code (F := fun W => Hid (R2 S w W m x (mdA m x) #[.int .i64 0, .bool false] 74)) I0 ?_
    clear I0
    intro W I
    obtain ⟨⟨g0, g1, g2, g3, g4, g5⟩, g6, g7, g8, g9, g10, g11⟩ := mdA_cells I.out.md
    go_upto_region 2 with (go_at_call 203; refine (HN.out _ I.out.ml).mono ?_; rintro e w1 ⟨⟨v, ⟨u0, u1, l0, l1, l2, n0, n1, n2, rfl⟩, rfl⟩, hb⟩; have I1 := Lib.hid (I.out.below hb))
    refine at_code (F := fun W => Hid (R2 S w W m x (mdA m x) #[.int .i64 0, .bool false] 74) ∧ Hid (Var W w1.heap.size #[.string u0, .string u1, .int .i64 y.kind, .int .i64 y.func, .int .i64 y.elem, .int .i64 l0, .int .i64 l1, .bool l2, .int .i64 n0, .int .i64 n1, .bool n2, .int .i64 y.gtyp, .bool y.gmut] 76)) ⟨Lib.hid (I1.out.below ((Below.refl _ _).alloc (Nat.le_refl _) _)), Lib.hid (Var.new _ _ _)⟩ ?_
    clear I I1 hb HN g0 g1 g2 g3 g4 g5 g6 g7 g8 g9 g10 g11
    obtain ⟨K, hK⟩ : ∃ K, w1.heap.size = K := ⟨_, rfl⟩
    simp only [hK]
    clear hK
    rintro W ⟨I, HV⟩
    obtain ⟨⟨g0, g1, g2, g3, g4, g5⟩, g6, g7, g8, g9, g10, g11⟩ := mdA_cells I.out.md
    obtain ⟨q0, q1⟩ := cells2 I.out.rs
    have z0 := I.out.rs.froz 0
    have z1 := I.out.rs.froz 1
    have hlt := I.out.rs.lt
    have p11 := HV.out.cells 11
    have p12 := HV.out.cells 12
    go_wp2_with fail
    refine bodyPost_ret (results_cell_row_tmp rfl _ _ (w.heap.size + 1) _ _ (0, 0) _ rfl (by first | exact (((I.out.rs).set 0 _).set 1 _) | exact I.out.rs) Tryz.underlying74 rfl (by kernel_rfl)) rfl ?_
    exact ⟨rfl, by first | exact below_set I.out.bel (by omega) _ _ | exact I.out.bel⟩
set_option maxHeartbeats 8000000 in
set_option maxRecDepth 100000 in
theorem rfunc8_any (m : Md) (hf : m.imps.length ≤ 100000) (x : MX) (ho : x.One) (S : Nat → Prop) (i : Int) (h0 : -9223372036854775808 ≤ i) (h1 : i ≤ 9223372036854775807) (w : World) (hm : MdL S w m x) :
    Calls Tryz.prog 157 #[.agg (mdA m x), .int .i64 i] w fun e w' => SgOut (Mc.funO (Mc.thOf m) i) e ∧ Below w.heap.size w w' := by
  obtain ⟨R, hR⟩ : ∃ R, Mc.funO (Mc.thOf m) i = R := ⟨_, rfl⟩
  rw [hR]
  have HN := Lib.hid (fun W (h : MdL S W m x) => rnth_any m hf x S 0 i h0 h1 W h.rd)
  have HO := Lib.hid (fun W (h : MdL S W m x) => rown_any m hf x ho S 0 i h1 m.funcs.length W h)
  have HFN := Lib.hid hm.fn
  have HT := Lib.hid (fun (z : Int) W (h : MdL S W m x) => rtype_any m hf x ho S z W h)
  have I0 := Lib.hid (R2.new (mv := mdA m x) (rv := #[.slice none 0 0, .slice none 0 0]) (T := 36) hm)
  unfold mdA at HN HO HT
  clear hm ho h0 h1
  rcases hn : Mc.nthI m.imps 0 i with _ | y
  · simp only [hn] at HN
    rcases Mc.own_cases (Mc.impN m.imps 0) i m.funcs.length with hw | ⟨j, hj, hw⟩
    · rw [Mc.fun_no hn hw] at hR
      obtain rfl := hR
      simp only [hw] at HO
      clear hn hw HT
      go_enter Tryz.func157, Tryz.ntmps157
      go_upto_region 1 with fail
      refine at_code (F := fun W => Hid (R2 S w W m x (mdA m x) #[.slice none 0 0, .slice none 0 0] 36)) I0 ?_
      clear I0
      intro W I
      obtain ⟨⟨g0, g1, g2, g3, g4, g5⟩, g6, g7, g8, g9, g10, g11⟩ := mdA_cells I.out.md
      go_upto_region 2 with (go_at_call 203; refine (HN.out _ I.out.ml).mono ?_; rintro e w1 ⟨⟨v, ⟨y, u0, u1, l0, l1, l2, n0, n1, n2, rfl⟩, rfl⟩, hb⟩; have I1 := Lib.hid (I.out.below hb))
      refine at_code (F := fun W => Hid (R2 S w W m x (mdA m x) #[.slice none 0 0, .slice none 0 0] 36) ∧ Hid (Var W w1.heap.size #[.string u0, .string u1, .int .i64 y.kind, .int .i64 y.func, .int .i64 y.elem, .int .i64 l0, .int .i64 l1, .bool l2, .int .i64 n0, .int .i64 n1, .bool n2, .int .i64 y.gtyp, .bool y.gmut] 76)) ⟨Lib.hid (I1.out.below ((Below.refl _ _).alloc (Nat.le_refl _) _)), Lib.hid (Var.new _ _ _)⟩ ?_
      clear I I1 hb HN g0 g1 g2 g3 g4 g5 g6 g7 g8 g9 g10 g11
      obtain ⟨K, hK⟩ : ∃ K, w1.heap.size = K := ⟨_, rfl⟩
      simp only [hK]
      clear hK
      rintro W ⟨I, HV⟩
      obtain ⟨⟨g0, g1, g2, g3, g4, g5⟩, g6, g7, g8, g9, g10, g11⟩ := mdA_cells I.out.md
      obtain ⟨q0, q1⟩ := cells2 I.out.rs
      have z0 := I.out.rs.froz 0
      have z1 := I.out.rs.froz 1
      have hlt := I.out.rs.lt
      have hb0 : (decide ((0 : Int) ≤ -1)) = false := rfl
      go_wp2_with (go_at_call 204; refine (HO.out _ I.out.ml).mono ?_; rintro e w2 ⟨rfl, hb⟩; have I2 := Lib.hid (I.out.below hb); clear hb g0 g1 g2 g3 g4 g5 g6 g7 g8 g9 g10 g11 q0 q1 z0 z1 hlt; obtain ⟨⟨g0, g1, g2, g3, g4, g5⟩, g6, g7, g8, g9, g10, g11⟩ := mdA_cells I2.out.md; obtain ⟨q0, q1⟩ := cells2 I2.out.rs; have z0 := I2.out.rs.froz 0; have z1 := I2.out.rs.froz 1; have hlt := I2.out.rs.lt)
      refine bodyPost_ret (results_cell_row_tmp rfl _ _ (w.heap.size + 1) _ _ (0, 0) _ rfl (by first | exact (((I2.out.rs).set 0 _).set 1 _) | exact I2.out.rs) Tryz.underlying36 rfl (by kernel_rfl)) rfl ?_
      exact ⟨⟨_, _, _, _, rfl⟩, by first | exact below_set I2.out.bel (by omega) _ _ | exact I2.out.bel⟩
    · rw [Mc.fun_own hn hj hw] at hR
      simp only [hw] at HO
      obtain ⟨v0, hv⟩ : ∃ v, m.funcs[j] = v := ⟨_, rfl⟩
      rw [hv] at hR
      clear hn hw
      have HTz := Lib.hid (HT.out v0)
      obtain ⟨⟨⟨np, nr⟩, tb⟩, hq⟩ : ∃ q, Mc.lensO (Mc.ent m.types v0) = q := ⟨_, rfl⟩
      rw [hq] at HTz hR
      obtain rfl := hR
      clear HT hq
      go_enter Tryz.func157, Tryz.ntmps157
      go_upto_region 1 with fail
      refine at_code (F := fun W => Hid (R2 S w W m x (mdA m x) #[.slice none 0 0, .slice none 0 0] 36)) I0 ?_
      clear I0
      intro W I
      obtain ⟨⟨g0, g1, g2, g3, g4, g5⟩, g6, g7, g8, g9, g10, g11⟩ := mdA_cells I.out.md
      go_upto_region 2 with (go_at_call 203; refine (HN.out _ I.out.ml).mono ?_; rintro e w1 ⟨⟨v, ⟨y, u0, u1, l0, l1, l2, n0, n1, n2, rfl⟩, rfl⟩, hb⟩; have I1 := Lib.hid (I.out.below hb))
      refine at_code (F := fun W => Hid (R2 S w W m x (mdA m x) #[.slice none 0 0, .slice none 0 0] 36) ∧ Hid (Var W w1.heap.size #[.string u0, .string u1, .int .i64 y.kind, .int .i64 y.func, .int .i64 y.elem, .int .i64 l0, .int .i64 l1, .bool l2, .int .i64 n0, .int .i64 n1, .bool n2, .int .i64 y.gtyp, .bool y.gmut] 76)) ⟨Lib.hid (I1.out.below ((Below.refl _ _).alloc (Nat.le_refl _) _)), Lib.hid (Var.new _ _ _)⟩ ?_
      clear I I1 hb HN g0 g1 g2 g3 g4 g5 g6 g7 g8 g9 g10 g11
      obtain ⟨K, hK⟩ : ∃ K, w1.heap.size = K := ⟨_, rfl⟩
      simp only [hK]
      clear hK
      rintro W ⟨I, HV⟩
      obtain ⟨⟨g0, g1, g2, g3, g4, g5⟩, g6, g7, g8, g9, g10, g11⟩ := mdA_cells I.out.md
      obtain ⟨q0, q1⟩ := cells2 I.out.rs
      have z0 := I.out.rs.froz 0
      have z1 := I.out.rs.froz 1
      have hlt := I.out.rs.lt
      go_upto_region 6 with (go_at_call 204; refine (HO.out _ I.out.ml).mono ?_; rintro e w2 ⟨rfl, hb⟩; have I2 := Lib.hid (I.out.below hb); clear hb g0 g1 g2 g3 g4 g5 g6 g7 g8 g9 g10 g11 q0 q1 z0 z1 hlt; obtain ⟨⟨g0, g1, g2, g3, g4, g5⟩, g6, g7, g8, g9, g10, g11⟩ := mdA_cells I2.out.md; obtain ⟨q0, q1⟩ := cells2 I2.out.rs; have z0 := I2.out.rs.froz 0; have z1 := I2.out.rs.froz 1; have hlt := I2.out.rs.lt)
      have x0 : (0 : Int) ≤ (j : Int) := by omega
      have x1 : (j : Int) < (m.funcs.length : Int) := by omega
      obtain ⟨g, o, ha, -, hg, hty⟩ := I2.out.ml.fn.get hj
      rw [ha] at g2
      rw [hv] at hty
      obtain ⟨a1, a2, a3, a4, a5, a6, ⟨f0, -, -⟩, -⟩ := hty
      clear hv
      obtain ⟨g', o', hga', -, hg', -⟩ := HFN.out.get hj
      rw [ha] at hga'
      cases hga'
      simp only [ha] at HTz
      have VRs : (World.drew w2).heap[w.heap.size + 1]? = some (.cells #[.slice none 0 0, .slice none 0 0] 36 (0, 0)) := I2.out.rs
      refine wp_region_held_drew (S := (fun W' => W'.cell? ⟨w.heap.size, 0, none⟩ = some (.slice x.TA m.types.length x.tc) ∧ W'.cell? ⟨w.heap.size, 1, none⟩ = some (.slice x.IA m.imps.length x.ic) ∧ W'.cell? ⟨w.heap.size, 2, none⟩ = some (.slice (some ⟨g, o, none⟩) m.funcs.length x.fc) ∧ W'.cell? ⟨w.heap.size, 3, none⟩ = some (.slice x.BA m.tables.length x.bc) ∧ W'.cell? ⟨w.heap.size, 4, none⟩ = some (.slice x.MA m.mems x.mc) ∧ W'.cell? ⟨w.heap.size, 5, none⟩ = some (.slice x.GA m.globals.length x.gc) ∧ W'.cell? ⟨w.heap.size, 6, none⟩ = some (x.v6) ∧ W'.cell? ⟨w.heap.size, 7, none⟩ = some (x.v7) ∧ W'.cell? ⟨w.heap.size, 8, none⟩ = some (x.v8) ∧ W'.cell? ⟨w.heap.size, 9, none⟩ = some (.slice x.EA m.elems x.ec) ∧ W'.cell? ⟨w.heap.size, 10, none⟩ = some (.slice x.DA m.datas x.dc) ∧ W'.cell? ⟨w.heap.size, 11, none⟩ = some (x.v11) ∧ W'.cell? ⟨g, o + j * 3, none⟩ = some (.int .i64 v0))) (by kernel_rfl) ?_ (fun hHeld0 => ?_)
      · exact ⟨g0, g1, g2, g3, g4, g5, g6, g7, g8, g9, g10, g11, f0⟩
      refine tj (i := 0) rfl ?_; (try simp only [zS, zN, zT, zC, zZ])
      refine tj (i := 1) rfl ?_; (try simp only [zS, zN, zT, zC, zZ])
      refine tj (i := 2) rfl ?_; (try simp only [zS, zN, zT, zC, zZ])
      refine tj (i := 3) rfl ?_; (try simp only [zS, zN, zT, zC, zZ])
      refine tj (i := 4) rfl ?_; (try simp only [zS, zN, zT, zC, zZ])
      refine tj (i := 5) rfl ?_; (try simp only [zS, zN, zT, zC, zZ])
      refine tj (i := 6) rfl ?_; (try simp only [zS, zN, zT, zC, zZ])
      refine wpAnyH_ready (rs := [7]) (by kernel_rfl) (by simp) ?_
      refine AllReadyH.cons rfl (fun K hK => ?_) AllReadyH.nil
      go_simp
      (refine (HTz.out _ (I2.out.ml.on (below_drewN w2 1))).mono ?_; rintro e w3 ⟨⟨A, c, B, d, rfl⟩, hb⟩; have BC := (below_drewN w2 1).trans (hb.mono (Nat.le_refl _)); have I3 := Lib.hid (I2.out.below BC); have kp := Below.keep BC (fun _ => True); have VR3 : w3.heap[w.heap.size + 1]? = some (.cells #[.slice none 0 0, .slice none 0 0] 36 (0, 0)) := I3.out.rs)
      (try dsimp only)
      refine hK.out _ _ ?_ (fun hHeld1 => ?_)
      · (try dsimp only); (repeat' refine And.intro ?_ ?_) <;> exact kp _ _ trivial (by assumption)
      clear hK K hHeld0
      (try simp only [zS, zN, zT, zC, zZ])
      refine tj (i := 8) rfl ?_; (try simp only [zS, zN, zT, zC, zZ])
      refine tj (i := 9) rfl ?_; (try simp only [zS, zN, zT, zC, zZ])
      refine wpAnyH_ready (rs := [10]) (by kernel_rfl) (by simp) ?_
      refine AllReadyH.cons rfl (fun K hK => ?_) AllReadyH.nil
      (rw [if_pos (by rfl)]; refine wp_store_row 36 (.tmp 4) (.tmp 38) rfl (w.heap.size + 1) #[.slice A np c, .slice B nr d] rfl rfl 36 #[.slice none 0 0, .slice none 0 0] VR3 info_func2 rfl (by simp [Value.oneCell']) ?_; have gR := setRow_grown w3 (w.heap.size + 1) #[.slice A np c, .slice B nr d])
      (try dsimp only)
      refine hK.out _ _ ?_ (fun hHeld2 => ?_)
      · (try dsimp only); (repeat' refine And.intro ?_ ?_) <;> exact gR.cell (kp _ _ trivial (by assumption)) (by intro e; injection e with e; dsimp only at e; omega)
      clear hK K hHeld1
      (try simp only [zS, zN, zT, zC, zZ])
      refine tj (i := 11) rfl ?_; (try simp only [zS, zN, zT, zC, zZ])
      refine wpAnyH_done (by kernel_rfl) ?_ _
      (try dsimp only)
      repeat (first | go_values | go_skip | go_guarded | go_step | go_upon)
      refine bodyPost_ret (results_cell_row_tmp rfl _ _ (w.heap.size + 1) _ #[.slice A np c, .slice B nr d] (0, 0) _ rfl (setRow_heap w3 (w.heap.size + 1) #[.slice none 0 0, .slice none 0 0] _ _ (0, 0) VR3) Tryz.underlying36 rfl (by kernel_rfl)) rfl ?_
      exact ⟨⟨_, _, _, _, rfl⟩, below_grown I3.out.bel (setRow_grown w3 (w.heap.size + 1) #[.slice A np c, .slice B nr d]) I3.out.bel.size (by omega)⟩
  · simp only [hn] at HN
    rw [Mc.fun_imp hn] at hR
    have HTz := Lib.hid (HT.out y.func)
    obtain ⟨⟨⟨np, nr⟩, tb⟩, hq⟩ : ∃ q, Mc.lensO (Mc.ent m.types y.func) = q := ⟨_, rfl⟩
    rw [hq] at HTz hR
    obtain rfl := hR
    clear HT hq HO hn
    go_enter Tryz.func157, Tryz.ntmps157
    go_upto_region 1 with fail
    refine at_code (F := fun W => Hid (R2 S w W m x (mdA m x) #[.slice none 0 0, .slice none 0 0] 36)) I0 ?_
    clear I0
    intro W I
    obtain ⟨⟨g0, g1, g2, g3, g4, g5⟩, g6, g7, g8, g9, g10, g11⟩ := mdA_cells I.out.md
    go_upto_region 2 with (go_at_call 203; refine (HN.out _ I.out.ml).mono ?_; rintro e w1 ⟨⟨v, ⟨u0, u1, l0, l1, l2, n0, n1, n2, rfl⟩, rfl⟩, hb⟩; have I1 := Lib.hid (I.out.below hb))
    refine at_code (F := fun W => Hid (R2 S w W m x (mdA m x) #[.slice none 0 0, .slice none 0 0] 36) ∧ Hid (Var W w1.heap.size #[.string u0, .string u1, .int .i64 y.kind, .int .i64 y.func, .int .i64 y.elem, .int .i64 l0, .int .i64 l1, .bool l2, .int .i64 n0, .int .i64 n1, .bool n2, .int .i64 y.gtyp, .bool y.gmut] 76)) ⟨Lib.hid (I1.out.below ((Below.refl _ _).alloc (Nat.le_refl _) _)), Lib.hid (Var.new _ _ _)⟩ ?_
    clear I I1 hb HN g0 g1 g2 g3 g4 g5 g6 g7 g8 g9 g10 g11
    obtain ⟨K, hK⟩ : ∃ K, w1.heap.size = K := ⟨_, rfl⟩
    simp only [hK]
    clear hK
    rintro W ⟨I, HV⟩
    obtain ⟨⟨g0, g1, g2, g3, g4, g5⟩, g6, g7, g8, g9, g10, g11⟩ := mdA_cells I.out.md
    obtain ⟨q0, q1⟩ := cells2 I.out.rs
    have z0 := I.out.rs.froz 0
    have z1 := I.out.rs.froz 1
    have hlt := I.out.rs.lt
    have p3 := HV.out.cells 3
    go_wp2_with (go_at_call 158; refine (HTz.out _ I.out.ml).mono ?_; rintro e w3 ⟨⟨A, c, B, d, rfl⟩, hb⟩; have I3 := Lib.hid (I.out.below hb); clear hb; obtain ⟨q0, q1⟩ := cells2 I3.out.rs; have z0 := I3.out.rs.froz 0; have z1 := I3.out.rs.froz 1; have hlt := I3.out.rs.lt; dsimp only)
    refine bodyPost_ret (results_cell_row_tmp rfl _ _ (w.heap.size + 1) _ _ (0, 0) _ rfl (by first | exact (((I3.out.rs).set 0 _).set 1 _) | exact I3.out.rs) Tryz.underlying36 rfl (by kernel_rfl)) rfl ?_
    exact ⟨⟨_, _, _, _, rfl⟩, by first | exact below_set I3.out.bel (by omega) _ _ | exact I3.out.bel⟩
end Go.Proofs.YtadnfekogmjieaaGreatDoor
