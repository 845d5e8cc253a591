/-
  The writes of layer 10: value types, limits, table, global and block types.
-/
import Derived.Test.YtagcildoebicnaaOctWr
set_option linter.unusedVariables false
namespace Go.Proofs.Ytagcildoebicnaa
open Go.RowKit

theorem Trn.cells {W1 W2 : World} {B K : Nat} {F F' : Nat → Prop} (t : Trn W1 W2 B F F') (hK : K < W1.heap.size) (hn : ¬ F K) : (∀ o, W2.cell? ⟨K, o, none⟩ = W1.cell? ⟨K, o, none⟩) ∧ K < W2.heap.size ∧ ¬ F' K :=
  ⟨fun o => World.cell?_of_block (t.far K hK hn), Nat.lt_of_lt_of_le hK t.bel.size, fun hf => by rcases t.new K hf with h | h; exact hn h; omega⟩
theorem WrAt.not_ft {W : World} {B K : Nat} {p v : Value} {s : Oct.Wt} (h : WrAt W B p v s) (hK : W.heap.size ≤ K) : ¬ Ft p v K := fun hf => by have := (h.ft hf).2; omega
theorem RdrAt.not_ft {W : World} {B K : Nat} {p v : Value} {b : List UInt8} {s : Oct.St} (h : RdrAt W B p v b s) (hK : W.heap.size ≤ K) : ¬ Ft p v K := fun hf => by have := (h.ft hf).2; omega

/-- A variable of the call's own beside a Reader or Writer. -/
structure Box (w : World) (K : Nat) (cs : Array Value) (p v : Value) : Prop where
  cells : ∀ o, w.cell? ⟨K, o, none⟩ = cs[o]?
  lt : K < w.heap.size
  out : ¬ Ft p v K
theorem Box.new (W : World) (cs : Array Value) (e : TypeId) {p v : Value} (h : ¬ Ft p v W.heap.size) : Box (W.alloc (.cells cs e)) W.heap.size cs p v :=
  ⟨fun o => cell_of_row _ _ _ _ _ _ (heap_alloc_new W _), by simp, h⟩
theorem Box.below {w w' : World} {K : Nat} {cs : Array Value} {p v : Value} (h : Box w K cs p v) (hb : Below w.heap.size w w') : Box w' K cs p v :=
  ⟨fun o => (hb.cell (p := ⟨K, o, none⟩) h.lt).trans (h.cells o), Nat.lt_of_lt_of_le h.lt hb.size, h.out⟩
theorem Box.step {w w' : World} {K B : Nat} {cs : Array Value} {p v v1 : Value} (h : Box w K cs p v) (t : Trn w w' B (Ft p v) (Ft p v1)) : Box w' K cs p v1 :=
  ⟨fun o => ((t.cells h.lt h.out).1 o).trans (h.cells o), (t.cells h.lt h.out).2.1, (t.cells h.lt h.out).2.2⟩

namespace Oct
theorem fail_len (s : Wt) (e : Int) : (s.fail e).b.length = s.b.length := by unfold Wt.fail; split <;> rfl
theorem bytes_len (s : Wt) (l : List UInt8) : (s.bytes l).b.length ≤ s.b.length + l.length := by unfold Wt.bytes; split <;> simp
theorem putU32_len (s : Wt) (n : Int) : (putU32 s n).b.length ≤ s.b.length + 10 := by
  unfold putU32
  split
  · rw [fail_len]; omega
  · have := bytes_len s (Leb.putU n.toNat)
    have h2 := Leb.putU_len10 n.toNat (by omega)
    omega
theorem putVal_len (s : Wt) (t : Int) : (putVal s t).b.length ≤ s.b.length + 1 := by
  unfold putVal
  split
  · exact bytes_len s _
  · rw [fail_len]; omega
theorem putLim_len (s : Wt) (l : Lim) : (putLim s l).b.length ≤ s.b.length + 21 := by
  unfold putLim
  split
  · split
    · have := putU32_len (putU32 (s.bytes [1]) l.mn) l.mx
      have := putU32_len (s.bytes [1]) l.mn
      have := bytes_len s [1]
      simp at *; omega
    · have := putU32_len (s.bytes [0]) l.mn
      have := bytes_len s [0]
      simp at *; omega
  · rw [fail_len]; omega
end Oct

theorem ty_byte (t : Int) : 0 ≤ Ty.byte t ∧ Ty.byte t < 256 := by unfold Ty.byte; split; decide; split; decide; split; decide; split <;> decide
theorem putVal_any {W : World} {B : Nat} {p v : Value} {s : Oct.Wt} (h : WrAt W B p v s) (t : Int) (hlen : s.b.length ≤ 9000000) :
    Calls Try.prog 21 #[p, .int .i64 t] W fun e w' => e = .returned (.tuple #[]) ∧ WStep W B p v (Oct.putVal s t) w' := by
  have hb := ty_byte t
  have HB := Lib.hid (byte_any t W)
  have HW := Lib.hid (wbyte_any h (Ty.byte t) hb.1 hb.2 (by omega))
  have HF := Lib.hid (wfail_any h 12)
  unfold Oct.putVal
  rcases hv : Ty.val t with _ | _
  · rw [if_neg (by decide)]
    rw [hv] at HB
    clear hv
    go_enter Try.func21, Try.ntmps21
    go_wp2_with (first
      | (go_at_call 62; refine HB.out.mono ?_; rintro e w1 ⟨rfl, rfl⟩)
      | (go_at_call 47; refine HF.out.mono ?_; rintro e w1 ⟨rfl, hst⟩))
    go_wp2
    (try simp only [Exit.inBlock, Exit.then]); refine bodyPost_ret (results_none rfl _ _ _) rfl ?_
    exact ⟨rfl, hst⟩
  · rw [if_pos rfl]
    rw [hv] at HB
    clear hv
    go_enter Try.func21, Try.ntmps21
    go_wp2_with (first
      | (go_at_call 62; refine HB.out.mono ?_; rintro e w1 ⟨rfl, rfl⟩)
      | (go_at_call 49; refine HW.out.mono ?_; rintro e w1 ⟨rfl, hst⟩))
    go_end0
    exact ⟨rfl, hst⟩

set_option maxHeartbeats 2000000 in
set_option maxRecDepth 100000 in
theorem putLim_any {W : World} {B : Nat} {p v : Value} {s : Oct.Wt} (h : WrAt W B p v s) (l : Oct.Lim) (hlen : s.b.length ≤ 9000000) :
    Calls Try.prog 25 #[p, .agg #[.int .i64 l.mn, .int .i64 l.mx, .bool l.has]] W fun e w' => e = .returned (.tuple #[]) ∧ WStep W B p v (Oct.putLim s l) w' := by
  obtain ⟨mn, mx, has⟩ := l
  dsimp only
  have hb : Below W.heap.size W (W.alloc (.cells #[.int .i64 mn, .int .i64 mx, .bool has] 52)) := (Below.refl _ _).alloc (Nat.le_refl _) _
  have h1 := h.below hb
  have HL := Lib.hid (fun w => limits_any mn mx has 4294967295 w)
  have hK := h.not_ft (Nat.le_refl _)
  unfold Oct.putLim
  have hok : Oct.limOk ⟨mn, mx, has⟩ = Ty.limits mn mx has 4294967295 := rfl
  rw [hok]
  rcases hv : Ty.limits mn mx has 4294967295 with _ | _
  · rw [if_neg (by decide)]
    rw [hv] at HL
    clear hv hok
    go_enter Try.func25, Try.ntmps25
    go_wp2_with fail
    refine (HL.out _).mono ?_
    rintro e w1 ⟨rfl, hb1⟩
    have hb2 := hb.trans (hb1.mono hb.size)
    go_wp2_with fail
    refine (wfail_any (h.below hb2) 20).mono ?_
    rintro e w2 ⟨rfl, hst⟩
    go_wp2
    go_end0
    exact ⟨rfl, .trans (Trn.of_below h.base hb2) hst⟩
  · rw [if_pos rfl]
    rw [hv] at HL
    clear hv hok
    have bx := Box.new W #[.int .i64 mn, .int .i64 mx, .bool has] 52 hK
    rcases has with _ | _
    · dsimp only
      rw [if_neg (by decide)]
      go_enter Try.func25, Try.ntmps25
      go_wp2_with fail
      refine (HL.out _).mono ?_
      rintro e w1 ⟨rfl, hb1⟩
      have hb2 := hb.trans (hb1.mono hb.size)
      have bx1 := bx.below hb1
      have q1 := bx1.cells
      go_wp2_with fail
      refine (wbyte_any (h.below hb2) 0 (by decide) (by decide) (by omega)).mono ?_
      rintro e w2 ⟨rfl, v2, h2, t2⟩
      have bx2 := bx1.step t2
      have q2 := bx2.cells
      have l2 := Oct.bytes_len s [Oct.b8 0]
      simp at l2
      clear q1
      go_wp2_with fail
      refine (wU32_any h2 mn (by omega)).mono ?_
      rintro e w3 ⟨rfl, st3⟩
      go_wp2
      go_end0
      exact ⟨rfl, .trans (Trn.of_below h.base hb2) (.trans t2 st3)⟩
    · dsimp only
      rw [if_pos rfl]
      go_enter Try.func25, Try.ntmps25
      go_wp2_with fail
      refine (HL.out _).mono ?_
      rintro e w1 ⟨rfl, hb1⟩
      have hb2 := hb.trans (hb1.mono hb.size)
      have bx1 := bx.below hb1
      have q1 := bx1.cells
      go_wp2_with fail
      refine (wbyte_any (h.below hb2) 1 (by decide) (by decide) (by omega)).mono ?_
      rintro e w2 ⟨rfl, v2, h2, t2⟩
      have bx2 := bx1.step t2
      have q2 := bx2.cells
      have l2 := Oct.bytes_len s [Oct.b8 1]
      simp at l2
      clear q1
      go_wp2_with fail
      refine (wU32_any h2 mn (by omega)).mono ?_
      rintro e w3 ⟨rfl, v3, h3, t3⟩
      have bx3 := bx2.step t3
      have q3 := bx3.cells
      have l3 := Oct.putU32_len (s.bytes [Oct.b8 1]) mn
      clear q2
      go_wp2_with fail
      refine (wU32_any h3 mx (by omega)).mono ?_
      rintro e w4 ⟨rfl, st4⟩
      go_wp2
      go_end0
      exact ⟨rfl, .trans (Trn.of_below h.base hb2) (.trans t2 (.trans t3 st4))⟩

set_option maxHeartbeats 2000000 in
set_option maxRecDepth 100000 in
theorem putTable_any {W : World} {B : Nat} {p v : Value} {s : Oct.Wt} (h : WrAt W B p v s) (el : Int) (l : Oct.Lim) (hlen : s.b.length ≤ 8000000) :
    Calls Try.prog 26 #[p, .agg #[.int .i64 el, .int .i64 l.mn, .int .i64 l.mx, .bool l.has]] W fun e w' => e = .returned (.tuple #[]) ∧ WStep W B p v (Oct.putTable s el l) w' := by
  have HP := Lib.hid (fun (W : World) (v : Value) (s : Oct.Wt) (h : WrAt W B p v s) (hlen : s.b.length ≤ 9000000) => putLim_any h l hlen)
  obtain ⟨mn, mx, has⟩ := l
  dsimp only at HP ⊢
  have hb : Below W.heap.size W (W.alloc (.cells #[.int .i64 el, .int .i64 mn, .int .i64 mx, .bool has] 54)) := (Below.refl _ _).alloc (Nat.le_refl _) _
  have HL := Lib.hid (fun w => limits_any mn mx has 4294967295 w)
  have HR := Lib.hid (fun w => ref_any el w)
  have hK := h.not_ft (Nat.le_refl _)
  have bx := Box.new W #[.int .i64 el, .int .i64 mn, .int .i64 mx, .bool has] 54 hK
  unfold Oct.putTable
  have hok : Oct.limOk ⟨mn, mx, has⟩ = Ty.limits mn mx has 4294967295 := rfl
  rw [hok]
  rcases hr : Ty.ref el with _ | _
  · rw [if_neg (by decide)]
    rw [hr] at HR
    clear hok hr
    go_enter Try.func26, Try.ntmps26
    go_wp2_with fail
    refine (HR.out _).mono ?_
    rintro e w1 ⟨rfl, rfl⟩
    go_wp2_with fail
    refine (wfail_any (h.below hb) 12).mono ?_
    rintro e w2 ⟨rfl, hst⟩
    go_wp2
    go_end0
    exact ⟨rfl, .trans (Trn.of_below h.base hb) hst⟩
  rw [if_pos rfl]
  rw [hr] at HR
  clear hr
  rcases hv : Ty.limits mn mx has 4294967295 with _ | _
  · rw [if_neg (by decide)]
    rw [hv] at HL
    clear hv hok
    go_enter Try.func26, Try.ntmps26
    go_wp2_with fail
    refine (HR.out _).mono ?_
    rintro e w1 ⟨rfl, rfl⟩
    go_wp2_with fail
    refine (HL.out _).mono ?_
    rintro e w1 ⟨rfl, hb1⟩
    have hb2 := hb.trans (hb1.mono hb.size)
    go_wp2_with fail
    refine (wfail_any (h.below hb2) 20).mono ?_
    rintro e w2 ⟨rfl, hst⟩
    go_wp2
    go_end0
    exact ⟨rfl, .trans (Trn.of_below h.base hb2) hst⟩
  · rw [if_pos rfl]
    rw [hv] at HL
    clear hv hok
    go_enter Try.func26, Try.ntmps26
    go_wp2_with fail
    refine (HR.out _).mono ?_
    rintro e w1 ⟨rfl, rfl⟩
    go_wp2_with fail
    refine (HL.out _).mono ?_
    rintro e w1 ⟨rfl, hb1⟩
    have hb2 := hb.trans (hb1.mono hb.size)
    have bx1 := bx.below hb1
    have q1 := bx1.cells
    go_wp2_with fail
    refine (putVal_any (h.below hb2) el (by omega)).mono ?_
    rintro e w2 ⟨rfl, v2, h2, t2⟩
    have bx2 := bx1.step t2
    have q2 := bx2.cells
    have l2 := Oct.putVal_len s el
    clear q1
    go_wp2_with fail
    refine (HP.out _ _ _ h2 (by omega)).mono ?_
    rintro e w3 ⟨rfl, st3⟩
    go_wp2
    go_end0
    exact ⟨rfl, .trans (Trn.of_below h.base hb2) (.trans t2 st3)⟩

set_option maxHeartbeats 2000000 in
set_option maxRecDepth 100000 in
theorem putGlobal_any {W : World} {B : Nat} {p v : Value} {s : Oct.Wt} (h : WrAt W B p v s) (t : Int) (mu : Bool) (hlen : s.b.length ≤ 8000000) :
    Calls Try.prog 33 #[p, .agg #[.int .i64 t, .bool mu]] W fun e w' => e = .returned (.tuple #[]) ∧ WStep W B p v (Oct.putGlobal s t mu) w' := by
  have hb : Below W.heap.size W (W.alloc (.cells #[.int .i64 t, .bool mu] 67)) := (Below.refl _ _).alloc (Nat.le_refl _) _
  have HR := Lib.hid (fun w => val_any t w)
  have hB := h.base
  have hK := h.not_ft (Nat.le_refl _)
  have bx := Box.new W #[.int .i64 t, .bool mu] 67 hK
  unfold Oct.putGlobal
  rcases hr : Ty.val t with _ | _
  · rw [if_neg (by decide)]
    rw [hr] at HR
    clear hr
    go_enter Try.func33, Try.ntmps33
    go_wp2_with fail
    refine (HR.out _).mono ?_
    rintro e w1 ⟨rfl, rfl⟩
    go_wp2_with fail
    refine (wfail_any (h.below hb) 12).mono ?_
    rintro e w2 ⟨rfl, hst⟩
    go_wp2
    (try simp only [Exit.inBlock, Exit.then]); refine bodyPost_ret (results_none rfl _ _ _) rfl ?_
    exact ⟨rfl, .trans (Trn.of_below h.base hb) hst⟩
  rw [if_pos rfl]
  rw [hr] at HR
  clear hr
  have l2 := Oct.putVal_len s t
  rcases mu with _ | _
  · go_enter Try.func33, Try.ntmps33
    go_wp2_with fail
    refine (HR.out _).mono ?_
    rintro e w1 ⟨rfl, rfl⟩
    go_wp2_with fail
    refine (putVal_any (h.below hb) t (by omega)).mono ?_
    rintro e w2 ⟨rfl, v2, h2, t2⟩
    have q2 := (bx.step t2).cells
    go_wp2_with fail
    refine (wbyte_any h2 0 (by decide) (by decide) (by omega)).mono ?_
    rintro e w3 ⟨rfl, st3⟩
    go_wp2
    go_end0
    exact ⟨rfl, .trans (Trn.of_below hB hb) (.trans t2 st3)⟩
  · go_enter Try.func33, Try.ntmps33
    go_wp2_with fail
    refine (HR.out _).mono ?_
    rintro e w1 ⟨rfl, rfl⟩
    go_wp2_with fail
    refine (putVal_any (h.below hb) t (by omega)).mono ?_
    rintro e w2 ⟨rfl, v2, h2, t2⟩
    have q2 := (bx.step t2).cells
    go_wp2_with fail
    refine (wbyte_any h2 1 (by decide) (by decide) (by omega)).mono ?_
    rintro e w3 ⟨rfl, st3⟩
    go_wp2
    (try simp only [Exit.inBlock, Exit.then]); refine bodyPost_ret (results_none rfl _ _ _) rfl ?_
    exact ⟨rfl, .trans (Trn.of_below hB hb) (.trans t2 st3)⟩
end Go.Proofs.Ytagcildoebicnaa
