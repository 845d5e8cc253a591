/-
  A parameter that is a slice of the reference's nodes: the tree that it reads as, and its bulk.
-/
import Derived.Test.YtnjhbhbohnjckaaRows
import Derived.Test.YtnjhbhbohnjckaaTreeSize
import Derived.Test.YtnjhbhbohnjckaaTreeMem
import Derived.Deep.Slices
import Derived.Deep.Fields
import Derived.ChangeSame
set_option linter.unusedVariables false
set_option linter.unusedSimpArgs false
namespace Go.Proofs.Ytnjhbhbohnjckaa
open Go.ChangeShapes Go.WideShapes Go.Deep Go.RowKit
open Tree (Tr)

theorem spot_of_cell {w : World} {a : Addr} {v : Value} (h : w.cell? a = some v) : a.spot = none ∧ a.block < w.heap.size := by
  unfold World.cell? at h
  split at h
  · rename_i c t f hb
    split at h
    · cases h
    · rename_i hs
      refine ⟨by simpa using hs, ?_⟩
      rcases Nat.lt_or_ge a.block w.heap.size with h1 | h1
      · exact h1
      · rw [Array.getElem?_eq_none h1] at hb; cases hb
  · cases h
theorem add_plain (g o n : Nat) : (⟨g, o, none⟩ : Addr).add n = ⟨g, o + n, none⟩ := by
  unfold Addr.add
  split
  · rename_i h; subst h; rfl
  · rfl
theorem nodesAt_of {w : World} {S : Nat → Prop} {g : Nat} : ∀ {l : List Tr} {o : Nat}, (∀ (k : Nat) (h : k < l.length), NodeAt w S g (o + k * 4) l[k]) → NodesAt w S g o l
  | [], o, _ => by rw [NodesAt]; trivial
  | n :: l, o, h => by
    rw [NodesAt]
    refine ⟨by have := h 0 (by simp); rw [Nat.zero_mul, Nat.add_zero] at this; exact this, nodesAt_of fun k hk => ?_⟩
    have := h (k + 1) (by simpa using hk)
    rw [show o + (k + 1) * 4 = o + 4 + k * 4 from by omega] at this
    exact this
mutual
theorem fits_mono {N M : Nat} (hNM : N ≤ M) : ∀ n : Tr, Tree.fits N n → Tree.fits M n
  | .mk k p t l, h => by rw [Tree.fits] at h ⊢; exact ⟨by omega, fitss_mono hNM l h.2⟩
theorem fitss_mono {N M : Nat} (hNM : N ≤ M) : ∀ l : List Tr, Tree.fitss N l → Tree.fitss M l
  | [], h => by rw [Tree.fitss]; trivial
  | n :: l, h => by rw [Tree.fitss] at h ⊢; exact ⟨fits_mono hNM n h.1, fitss_mono hNM l h.2⟩
end
theorem bulk_all {H : Type} : ∀ (l : List Tr) (e : List (DataW H)), l.length = e.length → (∀ (i : Nat) (h : i < l.length) (h' : i < e.length), 5 * Tree.count l[i] ≤ Rows.uptoBulk e[i] ∧ Tree.fits (Rows.uptoBulk e[i]) l[i]) → 5 * Tree.counts l ≤ Rows.uptoBulkAll e ∧ Tree.fitss (Rows.uptoBulkAll e) l
  | [], [], _, _ => by rw [Tree.counts, Tree.fitss]; exact ⟨by omega, trivial⟩
  | n :: l, y :: e, hl, h => by
    have h0 := h 0 (by simp) (by simp)
    have h1 := bulk_all l e (by simpa using hl) fun i a b => h (i + 1) (by simpa using a) (by simpa using b)
    rw [Tree.counts, Tree.fitss, Rows.uptoBulkAll]
    simp only [List.getElem_cons_zero] at h0
    exact ⟨by omega, fits_mono (by omega) _ h0.2, fitss_mono (by omega) _ h1.2⟩
  | [], y :: e, hl, _ => by simp at hl
  | n :: l, [], hl, _ => by simp at hl
instance : Inhabited Tr := ⟨.mk 0 0 [] []⟩

theorem cells_node : Try.prog.cellsOf 43 = 4 := by kernel_rfl
section
variable {H : Type} {enc : TypeId × Value → H} {w : World} {base : Nat} {held : Bool} {spare : Nat → Bool}
/-- One node. -/
theorem open_node {n : Nat} (ih : ∀ (m : Nat), m < n → ∀ (cs : List Value) (x : DataW H × List MemPlace), DataW.trod enc Try.prog w base spare held m 27 cs = some x → ∃ A c l, cs = [.slice A l.length c] ∧ Lies w (fun g => g < w.heap.size) A l ∧ l.length ≤ c ∧ c ≤ maxLen ∧ 5 * Tree.counts l + 1 ≤ Rows.uptoBulk x.1 ∧ Tree.fitss (Rows.uptoBulk x.1) l)
    {cs : List Value} {y : DataW H × List MemPlace} (h : DataW.trod enc Try.prog w base spare held n 43 cs = some y) :
    ∃ (k p : Int) (t : List UInt8) (A : Option Addr) (c : Nat) (l : List Tr), cs = [.int .i64 k, .int .i64 p, .string ⟨t.toArray⟩, .slice A l.length c] ∧ Lies w (fun g => g < w.heap.size) A l ∧ l.length ≤ c ∧ c ≤ maxLen ∧ 5 * Tree.count (.mk k p t l) ≤ Rows.uptoBulk y.1 ∧ Tree.fits (Rows.uptoBulk y.1) (.mk k p t l) := by
  obtain ⟨xs, m, rfl, rfl, hlen, hxl, hf⟩ := DataW.trod_struct Try.underlying43 h
  rw [cells_node] at hlen
  match cs, hlen with
  | [v0, v1, v2, v3], _ =>
    have hxl4 : xs.length = 4 := hxl
    match xs, hxl4 with
    | [x0, x1, x2, x3], _ =>
      have t0 := hf 0 _ rfl
      have t1 := hf 1 _ rfl
      have t2 := hf 2 _ rfl
      have t3 := hf 3 _ rfl
      replace t0 : DataW.trod enc Try.prog w base spare held m 3 [v0] = some x0 := t0
      replace t1 : DataW.trod enc Try.prog w base spare held m 3 [v1] = some x1 := t1
      replace t2 : DataW.trod enc Try.prog w base spare held m 9 [v2] = some x2 := t2
      replace t3 : DataW.trod enc Try.prog w base spare held m 27 [v3] = some x3 := t3
      obtain ⟨k, e0, rfl, _⟩ := DataW.trod_int Try.underlying3 t0
      obtain ⟨p, e1, rfl, _⟩ := DataW.trod_int Try.underlying3 t1
      obtain ⟨s, e2, rfl, _⟩ := DataW.trod_string Try.underlying9 t2
      obtain ⟨A, c, l, e3, hL, hc, hm, hb, hft⟩ := ih m (Nat.lt_succ_self _) _ _ t3
      simp at e0 e1 e2 e3
      subst e0 e1 e2 e3
      refine ⟨k, p, s.data.toList, A, c, l, by simp, hL, hc, hm, ?_, ?_⟩
      · rw [Tree.count]
        simp [Rows.uptoBulk, Rows.uptoBulkAll]
        omega
      · rw [Tree.fits]
        simp [Rows.uptoBulk, Rows.uptoBulkAll]
        exact ⟨by omega, fitss_mono (by omega) _ hft⟩
theorem open_nodes : ∀ (fuel : Nat) (cs : List Value) (x : DataW H × List MemPlace), DataW.trod enc Try.prog w base spare held fuel 27 cs = some x → ∃ A c l, cs = [.slice A l.length c] ∧ Lies w (fun g => g < w.heap.size) A l ∧ l.length ≤ c ∧ c ≤ maxLen ∧ 5 * Tree.counts l + 1 ≤ Rows.uptoBulk x.1 ∧ Tree.fitss (Rows.uptoBulk x.1) l := by
  intro fuel
  induction fuel using Nat.strongRecOn with
  | _ fuel ih =>
  intro cs x h
  rcases DataW.trod_slice Try.underlying27 h with ⟨rfl, rfl⟩ | ⟨a, len, cap, elems, rest, n, rfl, rfl, rfl, hb, hl, hm, hel, hx, _, _⟩
  · exact ⟨none, 0, [], rfl, Lies.nil_ _ _ _, Nat.zero_le _, Nat.zero_le _, by simp [Tree.counts, Rows.uptoBulk], by rw [Tree.fitss]; trivial⟩
  · rw [cells_node] at hx
    have hE : ∀ i, i < len → ∃ nd : Tr, (∃ (A : Option Addr) (c : Nat), w.cell? ((a.add (i * 4)).add 0) = some (.int .i64 nd.kind) ∧ w.cell? ((a.add (i * 4)).add 1) = some (.int .i64 nd.pos) ∧ w.cell? ((a.add (i * 4)).add 2) = some (.string ⟨nd.text.toArray⟩) ∧ w.cell? ((a.add (i * 4)).add 3) = some (.slice A nd.l.length c) ∧ Lies w (fun g => g < w.heap.size) A nd.l ∧ nd.l.length ≤ c ∧ c ≤ maxLen) ∧ ∀ (hi : i < elems.length), 5 * Tree.count nd ≤ Rows.uptoBulk elems[i].1 ∧ Tree.fits (Rows.uptoBulk elems[i].1) nd := by
      intro i hi
      have hxi := hx i hi
      have hie : i < elems.length := by omega
      rw [List.getElem?_eq_getElem hie] at hxi
      obtain ⟨cs', hc, ht⟩ := Option.bind_eq_some_iff.1 hxi
      obtain ⟨_, hcl, hat⟩ := World.cells?_some hc
      obtain ⟨k, p, t, A, c, l, rfl, hL, h1, h2, h3, h4⟩ := open_node (fun m hm' => ih m (by omega)) ht
      exact ⟨.mk k p t l, ⟨A, c, hat 0 (by omega), hat 1 (by omega), hat 2 (by omega), hat 3 (by omega), hL, h1, h2⟩, fun _ => ⟨h3, h4⟩⟩
    obtain ⟨V, hV⟩ := choose_lt hE
    have hlen : ((List.range len).map V).length = len := by simp
    have hbk := bulk_all ((List.range len).map V) (elems.map (·.1)) (by simp [hel]) (fun i h h' => by
      have hi : i < len := by simpa using h
      have hie : i < elems.length := by omega
      have := (hV i hi).2 hie
      simpa using this)
    refine ⟨some a, cap, (List.range len).map V, by rw [hlen], ?_, by rw [hlen]; exact hl, hm, ?_, ?_⟩
    · rcases Nat.eq_zero_or_pos len with h0 | h0
      · left; subst h0; rfl
      · right
        obtain ⟨⟨A0, c0, z0, _⟩, _⟩ := hV 0 h0
        rw [Nat.zero_mul] at z0
        have hz : (a.add 0).add 0 = a := by unfold Addr.add; simp
        rw [hz] at z0
        obtain ⟨hsp, hbl⟩ := spot_of_cell z0
        obtain ⟨g, o, sp⟩ := a
        dsimp only at hsp hbl
        subst hsp
        refine ⟨g, o, rfl, hbl, nodesAt_of fun k hk => ?_⟩
        have hkl : k < len := by simpa using hk
        obtain ⟨⟨A1, c1, y0, y1, y2, y3, hL, h1, h2⟩, _⟩ := hV k hkl
        rw [add_plain, add_plain] at y0 y1 y2 y3
        have e : ((List.range len).map V)[k] = V k := by simp
        rw [e]
        rcases hv : V k with ⟨kd, ps, tx, ch⟩
        rw [hv] at y0 y1 y2 y3 hL h1
        rw [NodeAt]
        exact ⟨y0, y1, y2, A1, c1, y3, hL, h1, h2⟩
    · simp only [Rows.uptoBulk]; omega
    · simp only [Rows.uptoBulk]
      exact fitss_mono (by omega) _ hbk.2
end
/-- The parameter. -/
theorem open_forest {H : Type} {enc : TypeId × Value → H} {w : World} {base : Nat} {held : Bool} {r : Reach} {b0 : Nat} {v : Value} {d : DataW H} {p : List MemPlace}
    (hv : Value.okWide Try.prog w r b0 27 v) (h : DataW.Trod enc Try.prog w base (fun _ => true) held 27 v d p) :
    ∃ (A : Option Addr) (c : Nat) (l : List Tr), v = .slice A l.length c ∧ Lies w (fun g => g < w.heap.size) A l ∧ 5 * Tree.counts l + 1 ≤ Rows.uptoBulk d ∧ Tree.fitss (Rows.uptoBulk d) l := by
  obtain ⟨a0, len0, cap0, rfl⟩ := okWide_slice Try.underlying27 hv
  obtain ⟨fuel, hf⟩ := h
  obtain ⟨A, c, l, hcs, hL, _, _, hb, hft⟩ := open_nodes fuel _ _ hf
  simp [Value.cells] at hcs
  obtain ⟨rfl, rfl, rfl⟩ := hcs
  exact ⟨_, _, l, rfl, hL, hb, hft⟩
end Go.Proofs.Ytnjhbhbohnjckaa
