/-
  New makes an empty Scope.
-/
import Derived.Test.YtbnddnoognoekaaScopeSep
set_option linter.unusedVariables false
namespace Go.Proofs.Ytbnddnoognoekaa
open Go.RowKit Go.Maps

theorem wpList_mapIs_store (w : World) {ops : Array Oper} {rest : List Oper} {o : Oper} {a : Act} {Q : Exit → Act → World → Prop}
    (hg : o.guard = none) (m x v : Operand) (t : TypeId) (hop : o.op = Op.mapUpdate t m x v)
    (k e : TypeId) (K : Keyed Try.prog k) (ht : Try.prog.underlying t = some (.map k e)) (b n : Nat) (f : Lit → Option Value)
    (hm : a.eval m = .map (some b)) (h : MapIs w k b n f) (hn : n < maxLen) (key val : Value) (l : Lit) (hx : a.eval x = key) (hv : a.eval v = val) (hkey : keyOf Try.prog k key = some l)
    (f' : Lit → Option Value) (h1 : f' l = some val) (h2 : ∀ x, x ≠ l → f' x = f x)
    (hK : ∀ w', MapIs w' k b (n + 1) f' → w.grownBy w' (some b) → wpList Try.prog ops Q rest (a.put o.dst undef) w') :
    wpList Try.prog ops Q (o :: rest) a w := by
  refine wpList_plain hg fun K' hK' => ?_
  obtain ⟨w', hrun, r1, r2, _⟩ := h.store K ht hn hkey (val := val) f' h1 h2
  unfold Oper.wp
  simp [execOp, hop, hm, hx, hv, hrun, Result.andThen]
  exact hK' _ _ (hK w' r1 r2)

/-- What the map of kinds holds behind i rounds of New. -/
def kindG (i : Nat) (p : Nat → Nat) : Lit → Option Value
  | .int .i64 k => if 0 ≤ k ∧ k < (i : Int) then some (.pointer (some ⟨p k.toNat, 0, none⟩)) else none
  | _ => none
theorem kindG_same (i : Nat) (p : Nat → Nat) : kindG (i + 1) p (.int .i64 (i : Int)) = some (.pointer (some ⟨p i, 0, none⟩)) := by
  show (if 0 ≤ (i : Int) ∧ (i : Int) < ((i + 1 : Nat) : Int) then some (Value.pointer (some ⟨p (i : Int).toNat, 0, none⟩)) else none) = _
  rw [if_pos (by omega)]
  rfl
theorem kindG_other (i : Nat) (p : Nat → Nat) (l : Lit) (h : l ≠ .int .i64 (i : Int)) : kindG (i + 1) p l = kindG i p l := by
  unfold kindG
  split
  · rename_i k
    have : k ≠ (i : Int) := fun e => h (by rw [e])
    by_cases hk : 0 ≤ k ∧ k < (i : Int)
    · rw [if_pos hk, if_pos (by omega)]
    · rw [if_neg hk, if_neg (by omega)]
  · rfl
theorem kindG_nine (p : Nat → Nat) : kindG 9 p = kindF p := by
  funext l
  cases l <;> first | rfl | (rename_i q k; cases q <;> rfl)
theorem kindG_zero (p : Nat → Nat) : kindG 0 p = fun _ => none := by
  funext l
  unfold kindG
  split
  · rw [if_neg (by omega)]
  · rfl

theorem wf_nat (k : Nat) (h : k ≤ 1000000000) : (Lit.int .i64 (k : Int)).wf = true := by
  have h1 : IntKind.i64.min = -9223372036854775808 := by decide
  have h2 : IntKind.i64.max = 9223372036854775807 := by decide
  simp only [Lit.wf, h1, h2, Bool.and_eq_true, decide_eq_true_eq]
  omega

structure NewAt (w W : World) (B i : Nat) : Prop where
  sz : W.heap.size = B + 2 + 2 * i
  blk : W.heap[B + 1]? = some (.cells #[.map (some B), .slice none 0 0] 58 (0, 0))
  map : MapIs W 3 B i (kindG i (fun k => B + 3 + 2 * k))
  kind : ∀ k, k < i → KindAt W B (B + 3 + 2 * k) (B + 2 + 2 * k) (.slice none 0 0) []
  bel : Below B w W
theorem grown_below {w w' : World} {b B : Nat} (h : w.grownBy w' (some b)) (hB : B ≤ b) (hs : B ≤ w.heap.size) : Below B w w' :=
  ⟨h.os, h.tape, h.output, h.size, fun k hk => h.block k (by omega) (by intro e; injection e with e; omega)⟩
theorem nil_row (W : World) (B : Nat) (e : TypeId) (size : Nat) : W.ownsRow B e size (.slice none 0 0) 0 [] := World.ownsRow_nil _ _ _ _

theorem NewAt.scope {w W : World} {B : Nat} (h : NewAt w W B 9) : ScopeAt W B (B + 1) ⟨B, fun k => B + 3 + 2 * k, fun k => B + 2 + 2 * k, fun _ => .slice none 0 0, .slice none 0 0⟩ ⟨fun _ => [], []⟩ := by
  refine ⟨h.blk, ?_, fun k hk => h.kind k hk, nil_row _ _ _ _, by omega, by dsimp only; omega, fun i j _ _ e => by dsimp only at e; omega, fun i j _ _ e => by dsimp only at e; omega, fun k _ => by dsimp only; omega, fun i j _ _ _ g hg => by cases hg⟩
  have := h.map
  rw [kindG_nine] at this
  exact this

set_option maxHeartbeats 1000000 in
set_option maxRecDepth 100000 in
theorem new_any (w : World) :
    Calls Try.prog 8 #[] w fun e w' => e = .returned (.pointer (some ⟨w.heap.size + 1, 0, none⟩)) ∧ NewAt w w' w.heap.size 9 := by
  have hmm := @run_makeMap Try.prog
  obtain ⟨B, hB⟩ : ∃ B, w.heap.size = B := ⟨_, rfl⟩
  go_enter Try.func8, Try.ntmps8
  go_wp2_with fail
  go_loopw [6] (fun i wr => ∃ k : Nat, k ≤ 9 ∧ i = .int .i64 k ∧ NewAt w wr B k) (fun i _ => 9 - (intOf i).toNat)
  case atStart =>
    refine ⟨0, by omega, rfl, ⟨by simp [hB], ?_, ?_, fun k hk => by omega, ?_⟩⟩
    · have := heap_alloc_new (w.alloc (.map #[] 0)) (.cells #[.map (some w.heap.size), .slice none 0 0] 58)
      rw [hB] at this
      simpa [hB] using this
    · rw [kindG_zero, ← hB]
      exact (MapIs.made w 3).same (Below.heap_alloc _ _ _ (by simp))
    · rw [← hB]
      exact ((Below.refl _ _).alloc (Nat.le_refl _) _).alloc (by simp) _
  case round =>
    obtain ⟨k, hk, rfl, hN⟩ := hrel
    by_cases hk9 : k < 9
    · have hc : wr.cell? ⟨B + 1, 0, none⟩ = some (.map (some B)) := by rw [cell_of_row wr (B + 1) 0 _ _ _ hN.blk]; rfl
      have g9 : decide ((k : Int) < 9) = true := by simp; omega
      obtain ⟨S, hS⟩ : ∃ S, wr.heap.size = S := ⟨_, rfl⟩
      have hS2 : S = B + 2 + 2 * k := by rw [← hS]; exact hN.sz
      have hmap2 : MapIs ((wr.alloc (.map #[] 0)).alloc (.cells #[.int .i64 0, .slice none 0 0, .map (some S)] 65)) 3 B k (kindG k (fun k => B + 3 + 2 * k)) :=
        hN.map.same (by rw [Below.heap_alloc _ _ _ (by simp; have := hN.map.lt; omega), Below.heap_alloc _ _ _ hN.map.lt])
      have HN := Lib.hid hN
      have HS := Lib.hid hS2
      have HWF : Hid ((Lit.int .i64 (k : Int)).wf = true) := Lib.hid (wf_nat k (by omega))
      clear hS2 hN
      obtain ⟨w1, hrun, hM1, hg1, hz1⟩ := hmap2.store (t := 56) keyed_int Try.underlying56 (by unfold maxLen; omega) (key_int HWF.out) (val := .pointer (some ⟨S + 1, 0, none⟩)) (kindG (k + 1) (fun k => B + 3 + 2 * k)) (by rw [kindG_same]; have := HS.out; rw [show B + 3 + 2 * k = S + 1 from by omega]) (kindG_other k _)
      have HG := Lib.hid hg1
      have HZ := Lib.hid hz1
      clear hg1 hmap2 hz1
      go_wp2_with fail
      go_roundw
      case rel =>
        refine ⟨k + 1, by omega, by go_num, ?_⟩
        have hN := HN.out
        have hS2 := HS.out
        have hlt := hN.map.lt
        have hg1 := HG.out
        have old : ∀ b, b < S → b ≠ B → w1.heap[b]? = wr.heap[b]? := fun b hb hne => by
          rw [hg1.block b (by simp; omega) (by intro e; injection e with e; exact hne e), Below.heap_alloc _ _ _ (by simp; omega), Below.heap_alloc _ _ _ (by omega)]
        have hmp : MapIs (wr.alloc (.map #[] 0)) 9 S 0 (fun _ => none) := by rw [← hS]; exact MapIs.made wr 9
        have hblk := heap_alloc_new (wr.alloc (.map #[] 0)) (.cells #[.int .i64 0, .slice none 0 0, .map (some S)] 65)
        have hsz1 : (wr.alloc (.map #[] 0)).heap.size = S + 1 := by simp [hS]
        rw [hsz1] at hblk
        have hsame : ∀ b, b ≠ B → b < S + 2 → w1.heap[b]? = ((wr.alloc (.map #[] 0)).alloc (.cells #[.int .i64 0, .slice none 0 0, .map (some S)] 65)).heap[b]? := fun b hne hb =>
          hg1.block b (by simp; omega) (by intro e; injection e with e; exact hne e)
        refine ⟨?_, (old (B + 1) (by omega) (by omega)).trans hN.blk, hM1, fun j hj => ?_, ?_⟩
        · rw [HZ.out]; simp; omega
        · by_cases hjk : j < k
          · exact (hN.kind j hjk).same (old _ (by omega) (by omega)) (old _ (by omega) (by omega)) (fun g hg => by cases hg)
          · obtain rfl : j = k := by omega
            rw [show B + 3 + 2 * j = S + 1 from by omega, show B + 2 + 2 * j = S from by omega]
            refine ⟨(hsame (S + 1) (by omega) (by omega)).trans hblk, ⟨0, by simp, ?_⟩, nil_row _ _ _ _, by omega, by omega⟩
            have := hmp.same (W' := w1) ((hsame S (by omega) (by omega)).trans (Below.heap_alloc _ _ _ (by omega)))
            have e : (fun _ => none : Lit → Option Value) = atF [] := by
              funext l
              cases l <;> first | rfl | (simp [atF, Sc.find_nil])
            rw [e] at this
            exact this
        · have b1 : Below B w ((wr.alloc (.map #[] 0)).alloc (.cells #[.int .i64 0, .slice none 0 0, .map (some S)] 65)) := (hN.bel.alloc (by omega) _).alloc (by simp; omega) _
          exact b1.trans (grown_below hg1 (Nat.le_refl _) (by simp; omega))
      case measure => simp [intOf]; omega
    · obtain rfl : k = 9 := by omega
      go_wp2_with fail
      go_ret
      exact ⟨by rw [hB]; rfl, by rw [hB]; exact hN⟩
end Go.Proofs.Ytbnddnoognoekaa
