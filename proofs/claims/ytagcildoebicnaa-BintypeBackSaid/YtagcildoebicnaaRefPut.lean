/-
  The reference of layer 2: the writes.
-/
import Derived.Test.YtagcildoebicnaaRefOct
set_option linter.unusedVariables false
set_option linter.unusedSimpArgs false
namespace Go.Proofs.Ytagcildoebicnaa
open Go.RowKit

theorem RdB.ne_var {w : World} {B K : Nat} {A : Option Addr} {l : List UInt8} {cs : Array Value} {t : TypeId} (h : RdB w B A l) (v : Var w K cs t) (hno : ∀ (i : Nat) (y : Int), cs[i]? ≠ some (.int .u8 y)) (hp : 0 < l.length) {ad : Addr} (hA : A = some ad) : ad.block ≠ K := by
  intro e
  obtain ⟨ad', e', hb, hc⟩ := h.at_ hp
  rw [hA] at e'; injection e' with e'; subst e'
  have e0 : ad.add 0 = ad := by unfold Addr.add; simp
  rw [e0] at hc
  unfold World.cell? at hc
  have hv : w.heap[ad.block]? = some (.cells cs t (0, 0)) := by rw [e]; exact v
  rw [hv] at hc
  dsimp only at hc
  split at hc
  · cases hc
  · exact hno _ _ hc
theorem noW (x : Option Addr) (n c : Nat) (e : Int) : ∀ (i : Nat) (y : Int), (#[.slice x n c, .int .i64 e] : Array Value)[i]? ≠ some (.int .u8 y) := by
  intro i y h; rcases i with _ | _ | i <;> simp at h
theorem RdB.set {w : World} {B : Nat} {A : Option Addr} {l : List UInt8} (h : RdB w B A l) {K : Nat} (hne : 0 < l.length → ∀ ad, A = some ad → ad.block ≠ K) (o : Nat) (u : Value) : RdB (w.setCell ⟨K, o, none⟩ u) B A l := by
  refine ⟨h.1, fun hn => ?_⟩
  obtain ⟨ad, e, hb, hc⟩ := h.2 hn
  exact ⟨ad, e, hb, fun j u' hu => (World.cell?_of_block (Below.heap_setCell _ _ _ _ (by rw [block_of_add]; exact hne hn ad e))).trans (hc j u' hu)⟩

/-- What a write of the reference hands back. -/
def RPut (s : Oct.Wt) (w : World) (e : Ending) (w' : World) : Prop :=
  ∃ A c, e = .returned (.agg #[.slice A s.b.length c, .int .i64 s.err]) ∧ RdB w' w'.heap.size A s.b ∧ Below w.heap.size w w'
theorem refPutFail_any (A : Option Addr) (n c : Nat) (s : Oct.Wt) (e0 : Int) (w : World) (hn : s.b.length = n) (hr : RdB w w.heap.size A s.b) :
    Calls Try.prog 59 #[.agg #[.slice A n c, .int .i64 s.err], .int .i64 e0] w (RPut (s.fail e0) w) := by
  subst hn
  unfold Oct.Wt.fail
  rcases h : (s.err == 0) with _ | _
  · rw [if_neg (by simpa using h)]
    go_enter Try.func59, Try.ntmps59
    go_wp2
    go_returns
    exact ⟨A, c, rfl, (hr.below (w' := _) (by go_grown)).more (by go_size), by go_grown⟩
  · rw [if_pos (by simpa using h)]
    go_enter Try.func59, Try.ntmps59
    go_wp2
    go_returns
    exact ⟨A, c, rfl, (hr.below (w' := _) (by go_grown)).more (by go_size), by go_grown⟩

set_option maxHeartbeats 2000000 in
set_option maxRecDepth 100000 in
theorem refPutBytes_any (A B : Option Addr) (n c m d : Nat) (s : Oct.Wt) (l : List UInt8) (w : World) (hn : s.b.length = n) (hr : RdB w w.heap.size A s.b) (hm : l.length = m) (hl : RdB w w.heap.size B l) (hlen : s.b.length + l.length ≤ 10000000) :
    Calls Try.prog 90 #[.agg #[.slice A n c, .int .i64 s.err], .slice B m d] w (RPut (s.bytes l) w) := by
  subst hn hm
  unfold Oct.Wt.bytes
  by_cases h0 : s.err = 0
  · rw [if_pos h0]
    have g : (s.err != 0) = false := by simpa using h0
    have HE := Lib.hid h0
    clear h0
    go_enter Try.func90, Try.ntmps90
    have v_r : Var (((w.alloc (.cells #[.slice A s.b.length c, .int .i64 s.err] 41)).alloc (.cells #[.slice none 0 0, .int .i64 0] 41)).alloc (.cells #[] 5)) w.heap.size #[.slice A s.b.length c, .int .i64 s.err] 41 := ((Var.new w _ _).alloc _).alloc _
    have v_o : Var (((w.alloc (.cells #[.slice A s.b.length c, .int .i64 s.err] 41)).alloc (.cells #[.slice none 0 0, .int .i64 0] 41)).alloc (.cells #[] 5)) (w.heap.size + 1) #[.slice none 0 0, .int .i64 0] 41 := (Var.new2 w _ _ _).alloc _
    have bw : Below w.heap.size w (((w.alloc (.cells #[.slice A s.b.length c, .int .i64 s.err] 41)).alloc (.cells #[.slice none 0 0, .int .i64 0] 41)).alloc (.cells #[] 5)) := by go_grown
    have own0 : (((w.alloc (.cells #[.slice A s.b.length c, .int .i64 s.err] 41)).alloc (.cells #[.slice none 0 0, .int .i64 0] 41)).alloc (.cells #[] 5)).ownsRow (w.heap.size + 2) 5 1 (.slice (some ⟨w.heap.size + 2, 0, none⟩) 0 0) 0 [] := by
      have e2 : ((w.alloc (.cells #[.slice A s.b.length c, .int .i64 s.err] 41)).alloc (.cells #[.slice none 0 0, .int .i64 0] 41)).heap.size = w.heap.size + 2 := by simp
      have := World.ownsRow_lit (base := w.heap.size + 2) (e := 5) (size := 1) ((w.alloc (.cells #[.slice A s.b.length c, .int .i64 s.err] 41)).alloc (.cells #[.slice none 0 0, .int .i64 0] 41)) #[] 0 (by simp) (Nat.zero_le _) rfl
      rw [e2] at this
      exact this
    go_wp2_with (first
      | (at_builtin; refine app_bytes _ rfl (.tmp 9) (.tmp 11) rfl (w.heap.size + 2) _ [] rfl own0 w.heap.size A c s.b rfl (hr.below bw) (by simp; omega) (by simp) ?_; intro A2 c2 w2 hown2 hg2 hat2; have hb2 := below_own own0 hg2 (by simp); replace v_r := v_r.below hb2 (by omega); replace v_o := v_o.below hb2 (by omega); replace bw := bw.trans (hb2.mono (by omega)); have sz := bw.size; have sz2 : w.heap.size + 2 ≤ w2.heap.size := by { have := hb2.size; simp at this; omega }; rw [List.nil_append] at hown2; clear hg2 hat2 own0 hb2)
      | (at_builtin; refine app_bytes _ rfl (.tmp 12) (.tmp 13) rfl (w.heap.size + 2) _ s.b rfl hown2 w.heap.size B d l rfl (hl.below bw) (by omega) (by omega) ?_; intro A3 c3 w3 hown3 hg3 hat3; have hb3 := below_own hown2 hg3 sz2; replace v_r := v_r.below hb3 (by omega); replace v_o := v_o.below hb3 (by omega); replace bw := bw.trans (hb3.mono (by omega)); have sz3 := hb3.size; have q_r := v_r.cells; have q_o := v_o.cells; have z_r := v_r.froz; have z_o := v_o.froz; clear hg3 hat3 hb3))
    refine bodyPost_ret (v := .agg #[.slice A3 (s.b ++ l).length c3, .int .i64 s.err]) (by simp [results, Try.results90, go_sem, q_o, q_r]) rfl ?_
    rw [HE.out]
    exact ⟨A3, c3, rfl, RdB.of_own (ownsRow_setCell_below (ownsRow_setCell_below (ownsRow_setCell_below hown3 (by dsimp only; omega) _) (by dsimp only; omega) _) (by dsimp only; omega) _), by go_grown⟩
  · rw [if_neg h0]
    have g : (s.err != 0) = true := by simpa using h0
    clear h0
    go_enter Try.func90, Try.ntmps90
    go_wp2
    go_returns
    exact ⟨A, c, rfl, (hr.below (w' := _) (by go_grown)).more (by go_size), by go_grown⟩
end Go.Proofs.Ytagcildoebicnaa
