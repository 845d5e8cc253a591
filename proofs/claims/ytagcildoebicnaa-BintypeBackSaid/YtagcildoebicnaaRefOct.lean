/-
  The reference of layer 2: readers and writers as values.
-/
import Derived.Test.YtagcildoebicnaaOctWr
import Derived.Test.YtagcildoebicnaaLebRefPut
import Derived.Handy
set_option linter.unusedVariables false
set_option linter.unusedSimpArgs false
namespace Go.Proofs.Ytagcildoebicnaa
open Go.RowKit

theorem bcell {W w1 : World} {B : Nat} (hb : Below B W w1) : (∀ b o, b < B → w1.cell? ⟨b, o, none⟩ = W.cell? ⟨b, o, none⟩) ∧ (∀ b o, b < B → w1.frozen? ⟨b, o, none⟩ = W.frozen? ⟨b, o, none⟩) :=
  ⟨fun b o h => hb.cell (p := ⟨b, o, none⟩) h, fun b o h => hb.frozen (p := ⟨b, o, none⟩) h⟩

/-- A call at a world of which certain facts are known, the world under a name of its own. -/
theorem at_world {F : World → Prop} {P : Program} {f : FuncId} {args : Array Value} {Wx : World} {Post : Ending → World → Prop} (hf : F Wx) (h : ∀ w, F w → Calls P f args w Post) : Calls P f args Wx Post := h _ hf

/-- A variable of the call's own, as a block of the heap. -/
def Var (w : World) (K : Nat) (cs : Array Value) (t : TypeId) : Prop := w.heap[K]? = some (.cells cs t (0, 0))
section
variable {w w' : World} {K : Nat} {cs : Array Value} {t : TypeId}
theorem Var.cells (h : Var w K cs t) : ∀ o, w.cell? ⟨K, o, none⟩ = cs[o]? := fun o => cell_of_row _ _ _ _ _ _ h
theorem Var.froz (h : Var w K cs t) : ∀ o, w.frozen? ⟨K, o, none⟩ = false := fun o => frozen_of_row _ _ _ _ _ h
theorem Var.lt (h : Var w K cs t) : K < w.heap.size := lt_of_heap h
theorem Var.new (W : World) (cs : Array Value) (e : TypeId) : Var (W.alloc (.cells cs e)) W.heap.size cs e := heap_alloc_new W _
theorem Var.below {B : Nat} (h : Var w K cs t) (hb : Below B w w') (hK : K < B) : Var w' K cs t := (hb.block K hK).trans h
theorem Var.set (h : Var w K cs t) (o : Nat) (u : Value) : Var (w.setCell ⟨K, o, none⟩ u) K (cs.setIfInBounds o u) t := Go.heap_setCell_same w K o _ _ u h
theorem Var.other (h : Var w K cs t) {K' : Nat} (hne : K ≠ K') (o : Nat) (u : Value) : Var (w.setCell ⟨K', o, none⟩ u) K cs t := (Below.heap_setCell _ _ _ _ hne).trans h
theorem Var.drew (h : Var w K cs t) : Var w.drew K cs t := h
theorem Var.new2 (W : World) (o : Obj) (cs : Array Value) (e : TypeId) : Var ((W.alloc o).alloc (.cells cs e)) (W.heap.size + 1) cs e := by
  have := Var.new (W.alloc o) cs e; rwa [World.size_alloc] at this
theorem Var.new3 (W : World) (o o' : Obj) (cs : Array Value) (e : TypeId) : Var (((W.alloc o).alloc o').alloc (.cells cs e)) (W.heap.size + 2) cs e := by
  have := Var.new ((W.alloc o).alloc o') cs e; rwa [World.size_alloc, World.size_alloc] at this
theorem Var.newE (W : World) (cs : Array Value) (e : TypeId) {K : Nat} (h : W.heap.size = K) : Var (W.alloc (.cells cs e)) K cs e := h ▸ Var.new W cs e
theorem Var.newE2 (W : World) (o : Obj) (cs : Array Value) (e : TypeId) {K : Nat} (h : W.heap.size = K) : Var ((W.alloc o).alloc (.cells cs e)) (K + 1) cs e := h ▸ Var.new2 W o cs e
theorem Var.alloc (h : Var w K cs t) (o : Obj) : Var (w.alloc o) K cs t := (Below.heap_alloc w o K h.lt).trans h
end

theorem refRead_any (A : Option Addr) (n c : Nat) (w : World) :
    Calls Try.prog 17 #[.slice A n c] w fun e w' => e = .returned (.agg #[.slice A n c, .int .i64 0, .int .i64 0]) ∧ Below w.heap.size w w' := by
  go_enter Try.func17, Try.ntmps17
  go_wp2
  go_returns
  exact ⟨rfl, by go_grown⟩
theorem refFail_any (A : Option Addr) (n c : Nat) (s : Oct.St) (e0 : Int) (w : World) :
    Calls Try.prog 55 #[.agg #[.slice A n c, .int .i64 (s.at_ : Int), .int .i64 s.err], .int .i64 e0] w fun e w' => e = .returned (.agg #[.slice A n c, .int .i64 ((s.fail e0).at_ : Int), .int .i64 (s.fail e0).err]) ∧ Below w.heap.size w w' := by
  unfold Oct.St.fail
  rcases h : (s.err == 0) with _ | _
  · rw [if_neg (by simpa using h)]
    go_enter Try.func55, Try.ntmps55
    go_wp2
    go_returns
    exact ⟨rfl, by go_grown⟩
  · rw [if_pos (by simpa using h)]
    go_enter Try.func55, Try.ntmps55
    go_wp2
    go_returns
    exact ⟨rfl, by go_grown⟩
theorem refLeft_any (A : Option Addr) (n c : Nat) (s : Oct.St) (w : World) (h0 : s.err = 0) (hle : s.at_ ≤ n) (hn : n ≤ 1000000) :
    Calls Try.prog 103 #[.agg #[.slice A n c, .int .i64 (s.at_ : Int), .int .i64 s.err]] w fun e w' => e = .returned (.int .i64 ((n : Int) - (s.at_ : Int))) ∧ Below w.heap.size w w' := by
  have g : (s.err != 0) = false := by simpa using h0
  clear h0
  go_enter Try.func103, Try.ntmps103
  go_wp2
  go_returns
  exact ⟨rfl, by go_grown⟩

/-- What Take(r, 1) hands back. -/
def RTake (A : Option Addr) (n c : Nat) (b : List UInt8) (s : Oct.St) (w : World) (e : Ending) (w' : World) : Prop :=
  Below w.heap.size w w' ∧
  ((e = .returned (.tuple #[.agg #[.slice A n c, .int .i64 ((Oct.byte b s).1.at_ : Int), .int .i64 (Oct.byte b s).1.err], .slice none 0 0]) ∧ (Oct.byte b s).2 = 0) ∨
   ∃ k c', e = .returned (.tuple #[.agg #[.slice A n c, .int .i64 ((Oct.byte b s).1.at_ : Int), .int .i64 (Oct.byte b s).1.err], .slice (some ⟨k, 0, none⟩) 1 c']) ∧ w'.cell? ⟨k, 0, none⟩ = some (.int .u8 (Oct.byte b s).2) ∧ w.heap.size ≤ k)
theorem slice_two (a : Addr) (n c k : Nat) (hk : k < n) (hc : n ≤ c) (w : World) :
    (Instr.slice 22 (.slice (some a) n c) (some (.int .i64 (k : Int))) (some (.int .i64 ((k : Int) + 1))) none).run Try.prog w = .ok (.slice (some (a.add k)) 1 (c - k)) w := by
  have hu : Try.prog.underlying 22 = some (.slice (Try.prog.elem 22)) := by kernel_rfl
  have hs : (sizeOf (Try.prog.elem 22)).run Try.prog w = .ok 1 w := by kernel_rfl
  rw [run_slice_lh w _ (some a) n c hu .i64 .i64 (k : Int) ((k : Int) + 1) (by omega) (by omega) (by omega), hs]
  have e1 : ((k : Int) + 1).toNat = k + 1 := by omega
  show Result.ok (sliced (some a) (k : Int).toNat ((k : Int) + 1).toNat c 1) w = _
  rw [e1, Int.toNat_natCast]
  unfold sliced
  rw [if_neg (by omega)]
  simp
set_option maxHeartbeats 4000000 in
set_option maxRecDepth 100000 in
theorem refTake_any (A : Option Addr) (n c : Nat) (b : List UInt8) (s : Oct.St) (w : World) (hn : b.length = n) (hr : RdB w w.heap.size A b) (hle : s.at_ ≤ n) (hc : n ≤ c) (hb6 : n ≤ 1000000) :
    Calls Try.prog 93 #[.agg #[.slice A n c, .int .i64 (s.at_ : Int), .int .i64 s.err], .int .i64 1] w (RTake A n c b s w) := by
  by_cases h0 : s.err = 0
  · have g : (s.err != 0) = false := by simpa using h0
    have HL := Lib.hid (fun w => refLeft_any A n c s w h0 hle hb6)
    by_cases hlt : s.at_ < n
    · have hby : Oct.byte b s = (⟨s.at_ + 1, 0⟩, ((b.getD s.at_ 0).toNat : Int)) := by unfold Oct.byte; rw [if_pos h0, if_pos (by omega)]
      obtain ⟨ad, rfl, hadl, hadc⟩ := hr.at_ (k := s.at_) (by omega)
      have hg : b.getD s.at_ 0 = b[s.at_]'(by omega) := by rw [List.getD_eq_getElem?_getD, List.getElem?_eq_getElem (by omega)]; rfl
      have hsl := fun w => slice_two ad n c s.at_ hlt hc w
      rw [← hg] at hadc
      have hrd : RdB w w.heap.size (some (ad.add s.at_)) [b.getD s.at_ 0] := take_reads w _ _ hadc (by rw [block_of_add]; exact hadl)
      have HE := Lib.hid h0
      have HBY := Lib.hid hby
      have q1 : decide ((n : Int) - (s.at_ : Int) < 1) = false := by simp; omega
      clear hadc hg hn h0 hby hr
      go_enter Try.func93, Try.ntmps93
      go_wp2_with fail
      refine at_world (F := fun w' => Var w' (w.heap.size) #[.slice (some ad) n c, .int .i64 (s.at_ : Int), .int .i64 s.err] 35 ∧ Var w' (w.heap.size + 1) #[.slice none 0 0, .int .i64 0, .int .i64 0] 35 ∧ Below w.heap.size w w') ⟨(Var.new w _ _).alloc _, Var.new2 w _ _ _, by go_grown⟩ ?_
      rintro w1 ⟨v_r, v_o, bw⟩
      have sz := bw.size
      refine (HL.out _).mono ?_
      rintro e w2 ⟨rfl, hb⟩
      replace v_r := v_r.below hb v_r.lt
      replace v_o := v_o.below hb v_o.lt
      replace bw := bw.trans (hb.mono bw.size)
      replace sz := bw.size
      clear hb
      have q_r := v_r.cells
      have z_r := v_r.froz
      have l_r := v_r.lt
      have q_o := v_o.cells
      have z_o := v_o.froz
      have l_o := v_o.lt
      have own0 := World.ownsRow_lit (base := w2.heap.size) (e := 5) (size := 1) w2 #[] 0 (Nat.le_refl _) (Nat.zero_le _) rfl
      go_wp2_with (at_builtin; refine app_bytes _ rfl (.tmp 24) (.tmp 33) rfl w2.heap.size _ [] rfl own0 w.heap.size _ (c - s.at_) [b.getD s.at_ 0] rfl ((hrd.below bw).alloc (by omega) _) (by simp) (by simp) ?_; intro A2 c2 w9 hown2 hg2 hat2; have hbB := below_own own0 hg2 (by simp); have hown9 := hown2; replace v_r := (v_r.alloc (.cells #[] 5)).below hbB l_r; replace v_o := (v_o.alloc (.cells #[] 5)).below hbB l_o; replace bw := (bw.alloc sz (.cells #[] 5)).trans (hbB.mono sz); clear q_r q_o z_r z_o; have q_r := v_r.cells; have q_o := v_o.cells; have z_r := v_r.froz; have z_o := v_o.froz; clear hg2 hat2)
      refine bodyPost_ret (v := .tuple #[.agg #[.slice (some ad) n c, .int .i64 ((s.at_ : Int) + 1), .int .i64 s.err], .slice A2 1 c2]) (by simp [results, Try.results93, go_sem, q_r, l_r, q_o, l_o]) rfl ?_
      obtain ⟨k, rfl, hk, hklt, hcell⟩ := own_at hown9 (by simp)
      refine ⟨by go_grown, .inr ⟨k, _, by rw [HBY.out, HE.out]; rfl, ?_, by omega⟩⟩
      rw [HBY.out]
      have e1 := hcell 0 (by simp)
      rw [World.cell?_setCell_other _ _ _ _ (by intro e; injection e with e; omega), World.cell?_setCell_other _ _ _ _ (by intro e; injection e with e; omega), World.cell?_setCell_other _ _ _ _ (by intro e; injection e with e; omega), World.cell?_setCell_other _ _ _ _ (by intro e; injection e with e; omega)]
      exact e1
    · have hby : Oct.byte b s = (⟨s.at_, 3⟩, 0) := by unfold Oct.byte; rw [if_pos h0, if_neg (by omega)]
      have HF := Lib.hid (fun w => refFail_any A n c s 3 w)
      have HX : s.fail 3 = ⟨s.at_, 3⟩ := by unfold Oct.St.fail; rw [if_pos h0]
      rw [HX] at HF
      dsimp only at HF
      have HBY := Lib.hid hby
      have q1 : decide ((n : Int) - (s.at_ : Int) < 1) = true := by simp; omega
      clear hn h0 hby hr HX
      go_enter Try.func93, Try.ntmps93
      go_wp2_with fail
      refine at_world (F := fun w' => Var w' (w.heap.size) #[.slice A n c, .int .i64 (s.at_ : Int), .int .i64 s.err] 35 ∧ Var w' (w.heap.size + 1) #[.slice none 0 0, .int .i64 0, .int .i64 0] 35 ∧ Below w.heap.size w w') ⟨(Var.new w _ _).alloc _, Var.new2 w _ _ _, by go_grown⟩ ?_
      rintro w1 ⟨v_r, v_o, bw⟩
      have sz := bw.size
      refine (HL.out _).mono ?_
      rintro e w2 ⟨rfl, hb⟩
      replace v_r := v_r.below hb v_r.lt
      replace v_o := v_o.below hb v_o.lt
      replace bw := bw.trans (hb.mono bw.size)
      replace sz := bw.size
      clear hb
      have q_r := v_r.cells
      have z_r := v_r.froz
      have l_r := v_r.lt
      have q_o := v_o.cells
      have z_o := v_o.froz
      have l_o := v_o.lt
      go_wp2_with fail
      refine at_world (F := fun w' => Var w' (w.heap.size) #[.slice A n c, .int .i64 (s.at_ : Int), .int .i64 s.err] 35 ∧ Var w' (w.heap.size + 1) #[.slice none 0 0, .int .i64 0, .int .i64 0] 35 ∧ Below w.heap.size w w') ⟨v_r, v_o, by go_grown⟩ ?_
      clear q_r z_r l_r q_o z_o l_o v_r v_o bw sz
      rintro w3 ⟨v_r, v_o, bw⟩
      have sz := bw.size
      refine (HF.out _).mono ?_
      rintro e w4 ⟨rfl, hb⟩
      replace v_r := v_r.below hb v_r.lt
      replace v_o := v_o.below hb v_o.lt
      replace bw := bw.trans (hb.mono bw.size)
      replace sz := bw.size
      clear hb
      have q_r := v_r.cells
      have z_r := v_r.froz
      have l_r := v_r.lt
      have q_o := v_o.cells
      have z_o := v_o.froz
      have l_o := v_o.lt
      go_wp2
      refine bodyPost_ret (v := .tuple #[.agg #[.slice A n c, .int .i64 (s.at_ : Int), .int .i64 3], .slice none 0 0]) (by simp [results, Try.results93, go_sem, q_r, l_r, q_o, l_o]) rfl ?_
      exact ⟨by go_grown, .inl ⟨by rw [HBY.out], by rw [HBY.out]⟩⟩
  · have g : (s.err != 0) = true := by simpa using h0
    have HBY := Lib.hid (show Oct.byte b s = (s, 0) by unfold Oct.byte; rw [if_neg h0])
    clear h0 hn hr
    go_enter Try.func93, Try.ntmps93
    go_wp2
    go_returns
    exact ⟨by go_grown, .inl ⟨by rw [HBY.out], by rw [HBY.out]⟩⟩

/-- What a read of the reference hands back: the reader behind it, and a number. -/
def RNum (k : IntKind) (A : Option Addr) (n c : Nat) (x : Oct.St × Int) (w : World) (e : Ending) (w' : World) : Prop :=
  e = .returned (.tuple #[.agg #[.slice A n c, .int .i64 (x.1.at_ : Int), .int .i64 x.1.err], .int k x.2]) ∧ Below w.heap.size w w'
set_option maxHeartbeats 4000000 in
set_option maxRecDepth 100000 in
theorem refByte2_any (A : Option Addr) (n c : Nat) (b : List UInt8) (s : Oct.St) (w : World) (hn : b.length = n) (hr : RdB w w.heap.size A b) (hle : s.at_ ≤ n) (hc : n ≤ c) (hb6 : n ≤ 1000000) :
    Calls Try.prog 64 #[.agg #[.slice A n c, .int .i64 (s.at_ : Int), .int .i64 s.err]] w (RNum .u8 A n c (Oct.byte b s) w) := by
  have HT := Lib.hid (fun w hr => refTake_any A n c b s w hn hr hle hc hb6)
  have HR := Lib.hid hr
  clear hr
  go_enter Try.func64, Try.ntmps64
  go_wp2_with fail
  refine at_world (F := fun w' => Var w' (w.heap.size) #[.slice A n c, .int .i64 (s.at_ : Int), .int .i64 s.err] 35 ∧ Var w' (w.heap.size + 1) #[.slice none 0 0, .int .i64 0, .int .i64 0] 35 ∧ Below w.heap.size w w') ⟨(Var.new w _ _).alloc _, Var.new2 w _ _ _, by go_grown⟩ ?_
  rintro w1 ⟨v_r, v_o, bw⟩
  have sz := bw.size
  refine (HT.out _ ((HR.out.below bw).more bw.size)).mono ?_
  rintro e w2 ⟨hb, ⟨rfl, hx⟩ | ⟨k, c', rfl, hcell, hkk⟩⟩
  · replace v_r := v_r.below hb v_r.lt
    replace v_o := v_o.below hb v_o.lt
    replace bw := bw.trans (hb.mono bw.size)
    replace sz := bw.size
    clear hb
    have q_r := v_r.cells
    have z_r := v_r.froz
    have l_r := v_r.lt
    have q_o := v_o.cells
    have z_o := v_o.froz
    have l_o := v_o.lt
    have HX := Lib.hid hx
    clear hx
    go_wp2
    refine bodyPost_ret (v := .tuple #[.agg #[.slice A n c, .int .i64 ((Oct.byte b s).1.at_ : Int), .int .i64 (Oct.byte b s).1.err], .int .u8 0]) (by simp [results, Try.results64, go_sem, q_r, l_r, q_o, l_o]) rfl ?_
    exact ⟨by rw [HX.out], by go_grown⟩
  · have lo1 := v_o.lt
    replace v_r := v_r.below hb v_r.lt
    replace v_o := v_o.below hb v_o.lt
    replace bw := bw.trans (hb.mono bw.size)
    replace sz := bw.size
    clear hb
    have q_r := v_r.cells
    have z_r := v_r.froz
    have l_r := v_r.lt
    have q_o := v_o.cells
    have z_o := v_o.froz
    have l_o := v_o.lt
    have hcl := block_lt_of_cell hcell
    dsimp only at hcl
    have hk1 : ¬ k = w.heap.size + 1 := by omega
    have hk2 : ¬ w.heap.size + 1 = k := by omega
    go_wp2_with fail
    go_region
    all_goals
      go_wp2
      refine bodyPost_ret (v := .tuple #[.agg #[.slice A n c, .int .i64 ((Oct.byte b s).1.at_ : Int), .int .i64 (Oct.byte b s).1.err], .int .u8 (Oct.byte b s).2]) (by simp [results, Try.results64, go_sem, q_r, q_o, l_r, l_o]) rfl ?_
      exact ⟨rfl, by go_grown⟩
end Go.Proofs.Ytagcildoebicnaa
