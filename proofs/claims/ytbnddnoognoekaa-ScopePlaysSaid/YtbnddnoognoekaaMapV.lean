/-
  A map that the call made itself, as a plain function from keys to values: what the world holds of it, its lookups and its stores.
-/
import Derived.Test.YtbnddnoognoekaaWords
import Derived.Maps.Own
import Derived.Maps.Views
set_option linter.unusedVariables false
namespace Go.Proofs.Ytbnddnoognoekaa
open Go.RowKit Go.Maps Go.WideElems

/-- Elements are held as they are. -/
def heldElem (v : Value) : Option (DataW Value × List MemPlace) := some (.held v, [])
def got (o : Option Value) : DataW Value := match o with | none => .nil | some v => .held v
theorem got_inj {a b : Option Value} (h : got a = got b) : a = b := by
  cases a <;> cases b <;> simp [got] at h ⊢ <;> exact h
/-- Block b of W is a map of at most n entries that holds f. -/
def MapIs (W : World) (k : TypeId) (b n : Nat) (f : Lit → Option Value) : Prop :=
  ∃ D : DataW Value, W.ownsMap Try.prog k heldElem b n D ∧ IsMap D ∧ ∀ l, WideAt.IsKeyLit l → D.atKey l .nil = got (f l)
section
variable {W W' : World} {k t e : TypeId} {b n : Nat} {f : Lit → Option Value}
theorem MapIs.made (W : World) (k : TypeId) : MapIs (W.alloc (.map #[] 0)) k W.heap.size 0 (fun _ => none) :=
  ⟨_, World.ownsMap_made W _ k heldElem, ⟨_, rfl⟩, fun _ _ => rfl⟩
theorem MapIs.lt (h : MapIs W k b n f) : b < W.heap.size := by obtain ⟨D, h, _⟩ := h; exact h.lt
theorem MapIs.isMap (h : MapIs W k b n f) : ∃ es c, W.heap[b]? = some (.map es c) := by
  obtain ⟨D, ⟨es, c, hb, _⟩, _⟩ := h
  exact ⟨es, c, hb⟩
theorem MapIs.same (h : MapIs W k b n f) (hb : W'.heap[b]? = W.heap[b]?) : MapIs W' k b n f := by
  obtain ⟨D, ⟨es, c, h1, h2⟩, h3⟩ := h
  exact ⟨D, ⟨es, c, hb.trans h1, h2⟩, h3⟩
theorem MapIs.look (h : MapIs W k b n f) (K : Keyed Try.prog k) (ht : Try.prog.underlying t = some (.map k e)) {z : Value} (hz : (zeroValue e).run Try.prog W = .ok z W) {key : Value} {l : Lit} (hkey : keyOf Try.prog k key = some l) (c : Bool) :
    (Instr.lookup t (.map (some b)) key c).run Try.prog W = .ok (if c then .tuple #[(f l).getD z, .bool (f l).isSome] else (f l).getD z) W := by
  obtain ⟨D, ⟨es, clock, hb, F, _, rfl⟩, _, hf⟩ := h
  have hl := hf l (K.key hkey)
  rcases fit_look c K ht hz hb F hkey with ⟨hrun, _, hat⟩ | ⟨e0, y, _, _, hrun, hRv, hat, _⟩
  · rw [hat .nil] at hl
    have : f l = none := got_inj (a := f l) (b := none) hl.symm
    rw [hrun, this]
    rfl
  · rw [hat .nil] at hl
    simp only [heldElem, Option.some.injEq] at hRv
    subst hRv
    have : f l = some e0.val := got_inj (a := f l) (b := some e0.val) hl.symm
    rw [hrun, this]
    rfl
theorem MapIs.store (h : MapIs W k b n f) (K : Keyed Try.prog k) (ht : Try.prog.underlying t = some (.map k e)) (hn : n < maxLen) {key val : Value} {l : Lit} (hkey : keyOf Try.prog k key = some l) (f' : Lit → Option Value) (h1 : f' l = some val) (h2 : ∀ x, x ≠ l → f' x = f x) :
    ∃ w', (Instr.mapUpdate t (.map (some b)) key val).run Try.prog W = .ok () w' ∧ MapIs w' k b (n + 1) f' ∧ W.grownBy w' (some b) ∧ w'.heap.size = W.heap.size := by
  obtain ⟨D, hown, hD, hf⟩ := h
  have hsz : ∀ w', (Instr.mapUpdate t (.map (some b)) key val).run Try.prog W = .ok () w' → w'.heap.size = W.heap.size := by
    intro w' hrun
    obtain ⟨es, clock, hb, F, hs, _⟩ := hown
    obtain ⟨es', clock', hrun', _⟩ := fit_store (R' := heldElem) K ht hb F (Nat.lt_of_le_of_lt hs hn) (fun _ _ _ _ hz => hz) hkey (val := val) (yv := (.held val, [])) rfl
    rw [hrun] at hrun'
    injection hrun' with _ e
    rw [e]
    simp [Go.ChangeMaps.setBlock]
  obtain ⟨w', hrun, r1, r2⟩ := hown.update K ht hn hkey (val := val) (d := .held val) (ps := []) rfl
  refine ⟨w', hrun, ⟨_, r1, ?_, fun x hx => ?_⟩, r2, hsz w' hrun⟩
  · obtain ⟨es, rfl⟩ := hD
    exact ⟨_, rfl⟩
  · by_cases hxl : x = l
    · subst hxl
      rw [atKey_put_same hD hx, h1]
      rfl
    · rw [atKey_put_other hxl, h2 x hxl]
      exact hf x hx
end
end Go.Proofs.Ytbnddnoognoekaa
