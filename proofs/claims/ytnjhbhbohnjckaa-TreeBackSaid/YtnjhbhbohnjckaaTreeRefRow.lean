/-
  The walk of the reference's row.
-/
import Derived.Test.YtnjhbhbohnjckaaTreeOwn
import Derived.Test.YtnjhbhbohnjckaaTreeEnv
import Derived.Test.YtnjhbhbohnjckaaTreeNodes
import Derived.Test.YtnjhbhbohnjckaaTreeEnds
import Derived.Test.YtnjhbhbohnjckaaTokOurs
import Derived.Deep.CutBlock
import Derived.Handy
set_option linter.unusedVariables false
set_option linter.unusedSimpArgs false
namespace Go.Proofs.Ytnjhbhbohnjckaa
open Go.RowKit
open Tree (Tr)

def TokAt (w : World) (gT : Nat) (L : List Tok.Tk) : Prop := ∀ (k : Nat) (h : k < L.length), w.cell? ⟨gT, k * 3, none⟩ = some (.int .i64 (L[k].kind : Int)) ∧ w.cell? ⟨gT, k * 3 + 1, none⟩ = some (.int .i64 (L[k].pos : Int)) ∧ w.cell? ⟨gT, k * 3 + 2, none⟩ = some (.string ⟨L[k].text.toArray⟩)
theorem TokAt.below {w w' : World} {gT B : Nat} {L : List Tok.Tk} (h : TokAt w gT L) (hb : Below B w w') (hg : gT < B) : TokAt w' gT L := fun k hk =>
  ⟨(hb.cell (p := ⟨gT, k * 3, none⟩) hg).trans (h k hk).1, (hb.cell (p := ⟨gT, k * 3 + 1, none⟩) hg).trans (h k hk).2.1, (hb.cell (p := ⟨gT, k * 3 + 2, none⟩) hg).trans (h k hk).2.2⟩
/-- What the reference's row says. -/
def RowEnd (r : Tree.Rw) (w : World) (e : Ending) (w' : World) : Prop :=
  Below w.heap.size w w' ∧ match r with
  | .ok l j => ∃ A c, e = .returned (.agg #[.slice A l.length c, .int .i64 (j : Int), .int .i64 0, .int .i64 0]) ∧ Lies w' (Fresh w.heap.size w') A l ∧ l.length ≤ c ∧ c ≤ maxLen
  | .bad p er => e = .returned (.agg #[.slice none 0 0, .int .i64 0, .int .i64 (p : Int), .int .i64 er]) ∧ er ≠ 0

/-- What stands at the loop's head. -/
def RowInv (w : World) (gT : Nat) (L : List Tok.Tk) (A : Option Addr) (c : Nat) (acc : List Tr) (wr : World) : Prop :=
  NRow wr (w.heap.size + 1) 43 (.slice A acc.length c) acc ∧ Var wr w.heap.size #[.slice none 0 0, .int .i64 0, .int .i64 0, .int .i64 0] 60 ∧ TokAt wr gT L ∧ Below w.heap.size w wr
def AfterRTok (w : World) (K gT : Nat) (L : List Tok.Tk) (kd ps : Nat) (tx : List UInt8) (A : Option Addr) (c : Nat) (acc : List Tr) (w' : World) : Prop :=
  RowInv w gT L A c acc w' ∧ Var w' K #[.int .i64 (kd : Int), .int .i64 (ps : Int), .string ⟨tx.toArray⟩] 82 ∧ w'.heap.size = K + 1 ∧ ∀ g, Value.ownBlock (.slice A acc.length c) = some g → g < K
theorem RowInv.alloc {w wr : World} {gT : Nat} {L : List Tok.Tk} {A : Option Addr} {c : Nat} {acc : List Tr} (h : RowInv w gT L A c acc wr) (hg : gT < w.heap.size) (o : Obj) : RowInv w gT L A c acc (wr.alloc o) := by
  obtain ⟨h1, h2, h3, h4⟩ := h
  have hs := h4.size
  exact ⟨h1.alloc o, h2.alloc o, h3.below ((Below.refl wr.heap.size wr).alloc (Nat.le_refl _) o) (by omega), h4.alloc hs o⟩
theorem RowInv.below {w wr w' : World} {gT B : Nat} {L : List Tok.Tk} {A : Option Addr} {c : Nat} {acc : List Tr} (h : RowInv w gT L A c acc wr) (hg : gT < w.heap.size) (hb : Below B wr w') (hB : wr.heap.size ≤ B) : RowInv w gT L A c acc w' := by
  obtain ⟨h1, h2, h3, h4⟩ := h
  have hs := h4.size
  have h5 := h2.lt
  exact ⟨h1.below hb hB, h2.below hb (by omega), h3.below hb (by omega), h4.trans (hb.mono (by omega))⟩

theorem RowInv.fin {w W : World} {gT : Nat} {L : List Tok.Tk} {A : Option Addr} {c : Nat} {acc : List Tr} (h : RowInv w gT L A c acc W) (a b p e : Value) :
    Var ((((W.setCell ⟨w.heap.size, 0, none⟩ a).setCell ⟨w.heap.size, 1, none⟩ b).setCell ⟨w.heap.size, 2, none⟩ p).setCell ⟨w.heap.size, 3, none⟩ e) w.heap.size #[a, b, p, e] 60 ∧
    Below w.heap.size w ((((W.setCell ⟨w.heap.size, 0, none⟩ a).setCell ⟨w.heap.size, 1, none⟩ b).setCell ⟨w.heap.size, 2, none⟩ p).setCell ⟨w.heap.size, 3, none⟩ e) ∧
    NRow ((((W.setCell ⟨w.heap.size, 0, none⟩ a).setCell ⟨w.heap.size, 1, none⟩ b).setCell ⟨w.heap.size, 2, none⟩ p).setCell ⟨w.heap.size, 3, none⟩ e) (w.heap.size + 1) 43 (.slice A acc.length c) acc := by
  obtain ⟨h1, h2, h3, h4⟩ := h
  refine ⟨(((h2.set 0 a).set 1 b).set 2 p).set 3 e, ?_, (((h1.set (by omega) 0 a).set (by omega) 1 b).set (by omega) 2 p).set (by omega) 3 e⟩
  exact (((h4.setCell (p := ⟨w.heap.size, 0, none⟩) (Nat.le_refl _) a).setCell (p := ⟨w.heap.size, 1, none⟩) (Nat.le_refl _) b).setCell (p := ⟨w.heap.size, 2, none⟩) (Nat.le_refl _) p).setCell (p := ⟨w.heap.size, 3, none⟩) (Nat.le_refl _) e

set_option maxHeartbeats 20000000 in
set_option maxRecDepth 100000 in
theorem refRow_any (gT cT : Nat) (L : List Tok.Tk) (hE : Tree.Ends L) (hL : L.length ≤ 100000000) (hcT : L.length ≤ cT) : ∀ (f i0 deep : Nat) (op : Nat), L.length - i0 ≤ f → i0 < L.length → deep ≤ 200 → ∀ (w : World), TokAt w gT L → gT < w.heap.size →
    Calls Try.prog 28 #[.slice (some ⟨gT, 0, none⟩) L.length cT, .int .i64 (i0 : Int), .int .i64 (deep : Int), .int .i64 (op : Int)] w (RowEnd (Tree.row L f i0 deep op []) w) := by
  intro f
  induction f using Nat.strongRecOn with
  | _ f ih =>
  intro i0 deep op hf hi0 hdeep w hT hgT
  have hst : RowInv w gT L none 0 [] (w.alloc (.cells #[.slice none 0 0, .int .i64 0, .int .i64 0, .int .i64 0] 60)) :=
    ⟨NRow.nil _ _ _, Var.new _ _ _, hT.below ((Below.refl w.heap.size w).alloc (Nat.le_refl _) _) hgT, (Below.refl w.heap.size w).alloc (Nat.le_refl _) _⟩
  have HST := Lib.hid hst
  clear hst hT
  go_enter Try.func28, Try.ntmps28
  go_wp2
  go_loopw [1, 9] (fun iv v wr => ∃ (i fu : Nat) (acc : List Tr) (A : Option Addr) (c : Nat), iv = .int .i64 (i : Int) ∧ v = .slice A acc.length c ∧ RowInv w gT L A c acc wr ∧ i < L.length ∧ acc.length ≤ i ∧ fu ≤ f ∧ L.length - i ≤ fu ∧ Tree.row L fu i deep op acc = Tree.row L f i0 deep op []) (fun iv _ _ => L.length - (intOf iv).toNat)
  case atStart => exact ⟨i0, f, [], none, 0, rfl, rfl, HST.out, hi0, by simp, Nat.le_refl _, hf, rfl⟩
  case round =>
    clear HST
    obtain ⟨i, fu, acc, A, c, rfl, rfl, hinv, hi, hai, hfu, hfl, hrw⟩ := hrel
    have hE0 := hE i hi
    have hEg := Tree.Ends.get hi
    obtain ⟨t0, t1, t2⟩ := hinv.2.2.1 i hi
    obtain ⟨tk, htk⟩ : ∃ tk, L[i] = tk := ⟨_, rfl⟩
    rw [htk] at t0 t1 t2 hE0 hEg
    obtain ⟨kd, ps, tx⟩ := tk
    dsimp only at t0 t1 t2 hE0
    have hii : (0 : Int) ≤ (i : Int) := Int.natCast_nonneg _
    have hil : (i : Int) < (L.length : Int) := by omega
    have hcT' : (L.length : Int) ≤ (cT : Int) := by omega
    have hgl : gT < wr.heap.size := by have := hinv.2.2.2.size; omega
    have hsz : w.heap.size ≤ wr.heap.size := hinv.2.2.2.size
    have hRl : w.heap.size < wr.heap.size := hinv.2.1.lt
    have HRW := Lib.hid hrw
    have HEG := Lib.hid hEg
    have HEZ := Lib.hid hE0
    obtain ⟨f3, rfl⟩ : ∃ f3, fu = f3 + 1 := ⟨fu - 1, by omega⟩
    have dlt : decide (i < L.length) = true := by simp; omega
    have hR := hinv.2.1
    have r0 := hR.cells 0
    have r1 := hR.cells 1
    have r2 := hR.cells 2
    have r3 := hR.cells 3
    have z0 := hR.froz 0
    have z1 := hR.froz 1
    have z2 := hR.froz 2
    have z3 := hR.froz 3
    simp only [List.getElem?_toArray, List.getElem?_cons_zero, List.getElem?_cons_succ] at r0 r1 r2 r3
    have HI := Lib.hid hinv
    clear hrw hEg hE0 htk hR hinv
    by_cases k4 : kd = 4
    · have b4 : ((kd : Int) != 4) = false := by simp; omega
      by_cases d0 : 0 < deep
      · have HB := Lib.hid (HRW.out.symm.trans (Tree.row_end_bad HEG.out k4 d0))
        have e0 : decide ((0 : Int) < (deep : Int)) = true := by simp; omega
        have e0n : decide (0 < deep) = true := by simp; omega
        clear k4 d0
        go_wp2
        have hF := HI.out.fin (.slice none 0 0) (.int .i64 0) (.int .i64 (op : Int)) (.int .i64 3)
        refine bodyPost_ret (results_cell_row rfl _ _ w.heap.size _ _ (0, 0) _ rfl hF.1 Try.underlying60 rfl (by kernel_rfl)) rfl ?_
        exact ⟨hF.2.1, by rw [HB.out]; exact ⟨rfl, by decide⟩⟩
      · have HB := Lib.hid (HRW.out.symm.trans (Tree.row_end_ok HEG.out k4 d0))
        have e0 : decide ((0 : Int) < (deep : Int)) = false := by simp; omega
        have e0n : decide (0 < deep) = false := by simp; omega
        clear k4 d0
        go_wp2
        have hF := HI.out.fin (.slice A acc.length c) (.int .i64 (i : Int)) (.int .i64 0) (.int .i64 0)
        refine bodyPost_ret (results_cell_row rfl _ _ w.heap.size _ _ (0, 0) _ rfl hF.1 Try.underlying60 rfl (by kernel_rfl)) rfl ?_
        exact ⟨hF.2.1, by rw [HB.out]; exact ⟨A, c, rfl, hF.2.2.lies.keep (fun _ _ => rfl) (fun k hk => ⟨by have := hk.1; omega, hk.2⟩), hF.2.2.cap.2⟩⟩
    have b4 : ((kd : Int) != 4) = true := by simp; omega
    have hi1 : i + 1 < L.length := by
      have := HEZ.out
      omega
    have hF : AfterRTok w wr.heap.size gT L kd ps tx A c acc (wr.alloc (.cells #[.int .i64 (kd : Int), .int .i64 (ps : Int), .string ⟨tx.toArray⟩] 82)) :=
      ⟨HI.out.alloc hgT _, Var.new _ _ _, by simp, fun g hg => (HI.out.1.lt g hg).2⟩
    have HF := Lib.hid hF
    clear hF r0 r1 r2 r3 z0 z1 z2 z3
    go_upto_region 4 with fail
    refine at_code (F := AfterRTok w wr.heap.size gT L kd ps tx A c acc) HF.out ?_
    rintro wx ⟨hinv, hv, hsx, hown⟩
    clear HF HI t0 t1 t2
    have v0 := hv.cells 0
    have v1 := hv.cells 1
    have v2 := hv.cells 2
    have hR := hinv.2.1
    have r0 := hR.cells 0
    have r1 := hR.cells 1
    have r2 := hR.cells 2
    have r3 := hR.cells 3
    have z0 := hR.froz 0
    have z1 := hR.froz 1
    have z2 := hR.froz 2
    have z3 := hR.froz 3
    simp only [List.getElem?_toArray, List.getElem?_cons_zero, List.getElem?_cons_succ] at v0 v1 v2 r0 r1 r2 r3
    have HI := Lib.hid hinv
    have HV := Lib.hid hv
    clear hinv hR hv
    by_cases k1 : kd = 1
    · have b1 : ((kd : Int) == 1) = true := by simp; omega
      by_cases d0 : deep = 0
      · have HB := Lib.hid (HRW.out.symm.trans (Tree.row_close_bad HEG.out k1 d0))
        have e0 : ((deep : Int) == 0) = true := by simp; omega
        clear k4 k1 d0
        go_wp2
        have hF := HI.out.fin (.slice none 0 0) (.int .i64 0) (.int .i64 (ps : Int)) (.int .i64 4)
        refine bodyPost_ret (results_cell_row rfl _ _ w.heap.size _ _ (0, 0) _ rfl hF.1 Try.underlying60 rfl (by kernel_rfl)) rfl ?_
        exact ⟨hF.2.1, by rw [HB.out]; exact ⟨rfl, by decide⟩⟩
      · have HB := Lib.hid (HRW.out.symm.trans (Tree.row_close_ok HEG.out k1 d0))
        have e0 : ((deep : Int) == 0) = false := by simp; omega
        clear k4 k1 d0
        go_wp2
        have hF := HI.out.fin (.slice A acc.length c) (.int .i64 ((i : Int) + 1)) (.int .i64 0) (.int .i64 0)
        refine bodyPost_ret (results_cell_row rfl _ _ w.heap.size _ _ (0, 0) _ rfl hF.1 Try.underlying60 rfl (by kernel_rfl)) rfl ?_
        exact ⟨hF.2.1, by rw [HB.out]; exact ⟨A, c, rfl, hF.2.2.lies.keep (fun _ _ => rfl) (fun k hk => ⟨by have := hk.1; omega, hk.2⟩), hF.2.2.cap.2⟩⟩
    have b1 : ((kd : Int) == 1) = false := by simp; omega
    by_cases k0 : kd = 0
    rotate_left
    · have b0 : ((kd : Int) == 0) = false := by simp; omega
      have HB := Lib.hid ((Tree.row_leaf HEG.out k4 k1 k0).symm.trans HRW.out)
      clear k4 k1 k0
      go_wp2_with (at_builtin; refine app_node wx rfl (.tmp 30) (.tmp 38) 27 43 rfl Try.underlying27 (by kernel_rfl) (w.heap.size + 1) (.slice A acc.length c) acc (kd : Int) (ps : Int) tx none [] 0 rfl HI.out.1 (wr.heap.size + 1) hsx rfl (Lies.nil_ _ _ _) ⟨Nat.le_refl _, Nat.zero_le _⟩ (by omega) (by omega) ?_; intro A3 c3 w3 hr3 hb3 hk3)
      have hln : (acc ++ [Tr.mk (kd : Int) (ps : Int) tx []]).length = acc.length + 1 := by simp
      have hi3 : RowInv w gT L A3 c3 (acc ++ [Tr.mk (kd : Int) (ps : Int) tx []]) w3 :=
        ⟨by rw [hln]; exact hr3, HI.out.2.1.below hb3 (by omega), HI.out.2.2.1.below hb3 (by omega), HI.out.2.2.2.trans (hb3.mono (by omega))⟩
      clear v0 v1 v2 r0 r1 r2 r3 z0 z1 z2 z3
      go_wp2
      go_roundw
      case rel => exact ⟨i + 1, f3, _, A3, c3, by go_num, by rw [hln], hi3, hi1, by rw [hln]; omega, by omega, by omega, HB.out⟩
      case measure => simp [intOf]; omega
    have b0 : ((kd : Int) == 0) = true := by simp; omega
    by_cases d2 : deep = 200
    · have e2 : ((deep : Int) == 200) = true := by simp; omega
      have HB := Lib.hid (HRW.out.symm.trans (Tree.row_deep HEG.out k0 d2))
      clear k4 k1 k0 d2
      go_wp2
      have hF := HI.out.fin (.slice none 0 0) (.int .i64 0) (.int .i64 (ps : Int)) (.int .i64 6)
      refine bodyPost_ret (results_cell_row rfl _ _ w.heap.size _ _ (0, 0) _ rfl hF.1 Try.underlying60 rfl (by kernel_rfl)) rfl ?_
      exact ⟨hF.2.1, by rw [HB.out]; exact ⟨rfl, by decide⟩⟩
    have e2 : ((deep : Int) == 200) = false := by simp; omega
    have hcall := ih f3 (by omega) (i + 1) (deep + 1) ps (by omega) hi1 (by omega) wx HI.out.2.2.1 (by omega)
    rw [show ((deep + 1 : Nat) : Int) = (deep : Int) + 1 from by omega, show ((i + 1 : Nat) : Int) = (i : Int) + 1 from by omega] at hcall
    unfold RowEnd at hcall
    rcases hr : Tree.row L f3 (i + 1) (deep + 1) ps [] with ⟨l, j⟩ | ⟨pb, er⟩
    · rw [hr] at hcall
      dsimp only at hcall
      have hj := Tree.row_ok hE _ _ _ _ _ _ _ (by omega) hi1 hr
      have HB := Lib.hid ((Tree.row_open_ok HEG.out k0 d2 hr).symm.trans HRW.out)
      have HC := Lib.hid hcall
      clear hcall hr k0 k1 k4 d2
      go_wp2_with fail
      (with_reducible refine HC.out.mono ?_)
      rintro e w2 ⟨hb2, A2, c2, rfl, hl2, hcc2, hcm2⟩
      have hi2 := HI.out.below hgT hb2 (Nat.le_refl _)
      have hv2 := HV.out.below hb2 (by omega)
      have hs2 := hb2.size
      have hk2 := kids_of' HI.out.1 (by omega) hl2
      have w0 := hv2.cells 0
      have w1 := hv2.cells 1
      simp only [List.getElem?_toArray, List.getElem?_cons_zero, List.getElem?_cons_succ] at w0 w1
      clear HC v0 v1 v2 r0 r1 r2 r3 z0 z1 z2 z3
      have hKw := hv2.lt
      have hKne := Nat.ne_of_lt hKw
      have hi3 := hi2.alloc hgT (.cells #[.slice A2 l.length c2, .int .i64 (j : Int), .int .i64 0, .int .i64 0] 60)
      have hx3 := Var.new w2 #[.slice A2 l.length c2, .int .i64 (j : Int), .int .i64 0, .int .i64 0] 60
      have hk3 : Lies (w2.alloc (.cells #[.slice A2 l.length c2, .int .i64 (j : Int), .int .i64 0, .int .i64 0] 60)) (Kids (w2.alloc (.cells #[.slice A2 l.length c2, .int .i64 (j : Int), .int .i64 0, .int .i64 0] 60)) (w.heap.size + 1) (.slice A acc.length c)) A2 l :=
        hk2.keep (fun g hg => Below.heap_alloc _ _ _ hg.2.1) (fun g hg => ⟨hg.1, by have := hg.2.1; simp; omega, hg.2.2⟩)
      have hd0 : (kd : Int) = 0 := by simpa using b0
      have HD := Lib.hid hd0
      clear hd0
      go_wp2_with (at_builtin; refine app_node _ rfl (.tmp 72) (.tmp 78) 27 43 rfl Try.underlying27 (by kernel_rfl) (w.heap.size + 1) (.slice A acc.length c) acc 0 (ps : Int) [] A2 l c2 rfl hi3.1 (w2.heap.size + 1) (by simp) rfl hk3 ⟨hcc2, hcm2⟩ (by omega) (by omega) ?_; intro A3 c3 w3 hr3 hb3 hk3'; have hv3 : Var w3 w2.heap.size #[.slice A2 l.length c2, .int .i64 (j : Int), .int .i64 0, .int .i64 0] 60 := (hk3' _ hx3.lt (fun e => by have := hown _ e; omega)).trans hx3; have y1 := hv3.cells 1; simp only [List.getElem?_toArray, List.getElem?_cons_zero, List.getElem?_cons_succ] at y1)
      have hln : (acc ++ [Tr.mk 0 (ps : Int) [] l]).length = acc.length + 1 := by simp
      have h2l := hi2.2.1.lt
      have hi4 : RowInv w gT L A3 c3 (acc ++ [Tr.mk 0 (ps : Int) [] l]) w3 :=
        ⟨by rw [hln]; exact hr3, hi3.2.1.below hb3 (by omega), hi3.2.2.1.below hb3 (by omega), hi3.2.2.2.trans (hb3.mono (by omega))⟩
      clear w0 w1 hi2 hv2 hk2 hi3 hx3 hk3 hr3 hb3 hk3' hv3
      go_wp2
      go_roundw
      case rel => exact ⟨j, f3, _, A3, c3, rfl, by rw [hln], hi4, hj.2, by rw [hln]; omega, by omega, by omega, by have := HB.out; rw [HD.out] at this; exact this⟩
      case measure => simp [intOf]; omega
    · rw [hr] at hcall
      dsimp only at hcall
      have HB := Lib.hid (HRW.out.symm.trans (Tree.row_open_bad HEG.out k0 d2 hr))
      have HC := Lib.hid hcall
      clear hcall hr k0 k1 k4 d2
      go_wp2_with fail
      (with_reducible refine HC.out.mono ?_)
      rintro e w2 ⟨hb2, rfl, her⟩
      have hi2 := HI.out.below hgT hb2 (Nat.le_refl _)
      have hR := (HI.out.below hgT hb2 (Nat.le_refl _)).2.1
      have r0 := hR.cells 0
      have r1 := hR.cells 1
      have r2 := hR.cells 2
      have r3 := hR.cells 3
      have z0 := hR.froz 0
      have z1 := hR.froz 1
      have z2 := hR.froz 2
      have z3 := hR.froz 3
      simp only [List.getElem?_toArray, List.getElem?_cons_zero, List.getElem?_cons_succ] at r0 r1 r2 r3
      have hKw := hR.lt
      have hKne := Nat.ne_of_lt hKw
      have g3 : (er != 0) = true := by simpa using her
      have HI2 := Lib.hid hi2
      clear HC v0 v1 v2 hR her hi2
      go_wp2
      have hF := HI2.out.fin (.slice none 0 0) (.int .i64 0) (.int .i64 (pb : Int)) (.int .i64 er)
      refine bodyPost_ret (results_cell_row rfl _ _ w.heap.size _ _ (0, 0) _ rfl (hF.1.alloc _) Try.underlying60 rfl (by kernel_rfl)) rfl ?_
      exact ⟨hF.2.1.alloc hF.2.1.size _, by rw [HB.out]; exact ⟨rfl, by simpa using g3⟩⟩
end Go.Proofs.Ytnjhbhbohnjckaa
