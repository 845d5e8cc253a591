/-
  Where the nodes of a tree lie in memory: four cells a node, the children in a row of their own; S holds the blocks.
-/
import Derived.Test.YtnjhbhbohnjckaaTreePlain
import Derived.Test.YtnjhbhbohnjckaaWords
import Derived.WalkKit
import Derived.ProofKit
import Derived.Below
set_option linter.unusedVariables false
namespace Go.Proofs.Ytnjhbhbohnjckaa
open Go.RowKit
open Tree (Tr)

mutual
def NodeAt (w : World) (S : Nat → Prop) (g o : Nat) : Tr → Prop
  | .mk k p t l => w.cell? ⟨g, o, none⟩ = some (.int .i64 k) ∧ w.cell? ⟨g, o + 1, none⟩ = some (.int .i64 p) ∧ w.cell? ⟨g, o + 2, none⟩ = some (.string ⟨t.toArray⟩) ∧
      ∃ A c, w.cell? ⟨g, o + 3, none⟩ = some (.slice A l.length c) ∧ (l = [] ∨ ∃ g' o', A = some ⟨g', o', none⟩ ∧ S g' ∧ NodesAt w S g' o' l) ∧ l.length ≤ c ∧ c ≤ maxLen
def NodesAt (w : World) (S : Nat → Prop) (g o : Nat) : List Tr → Prop
  | [] => True
  | n :: l => NodeAt w S g o n ∧ NodesAt w S g (o + 4) l
end
/-- A slice of nodes. -/
def Lies (w : World) (S : Nat → Prop) (A : Option Addr) (l : List Tr) : Prop := l = [] ∨ ∃ g o, A = some ⟨g, o, none⟩ ∧ S g ∧ NodesAt w S g o l

theorem cell_kept {w w' : World} {g o : Nat} (h : w'.heap[g]? = w.heap[g]?) : w'.cell? ⟨g, o, none⟩ = w.cell? ⟨g, o, none⟩ :=
  World.cell?_of_block h
mutual
theorem NodeAt.keep {w w' : World} {S S' : Nat → Prop} (hk : ∀ g, S g → w'.heap[g]? = w.heap[g]?) (hs : ∀ g, S g → S' g) {g : Nat} (hb : S g) : ∀ {o : Nat} {n : Tr}, NodeAt w S g o n → NodeAt w' S' g o n
  | o, .mk k p t l, h => by
    have e (i : Nat) : w'.cell? ⟨g, i, none⟩ = w.cell? ⟨g, i, none⟩ := cell_kept (hk _ hb)
    rw [NodeAt] at h ⊢
    rw [e, e, e, e]
    obtain ⟨h0, h1, h2, A, c, h3, h4, h5⟩ := h
    refine ⟨h0, h1, h2, A, c, h3, ?_, h5⟩
    rcases h4 with h4 | ⟨g', o', hA, hb', h4⟩
    · exact .inl h4
    · exact .inr ⟨g', o', hA, hs _ hb', NodesAt.keep hk hs hb' h4⟩
theorem NodesAt.keep {w w' : World} {S S' : Nat → Prop} (hk : ∀ g, S g → w'.heap[g]? = w.heap[g]?) (hs : ∀ g, S g → S' g) {g : Nat} (hb : S g) : ∀ {o : Nat} {l : List Tr}, NodesAt w S g o l → NodesAt w' S' g o l
  | o, [], _ => by rw [NodesAt]; trivial
  | o, n :: l, h => by
    rw [NodesAt] at h ⊢
    exact ⟨NodeAt.keep hk hs hb h.1, NodesAt.keep hk hs hb h.2⟩
end
theorem Lies.keep {w w' : World} {S S' : Nat → Prop} (hk : ∀ g, S g → w'.heap[g]? = w.heap[g]?) (hs : ∀ g, S g → S' g) {A : Option Addr} {l : List Tr} (h : Lies w S A l) : Lies w' S' A l := by
  rcases h with h | ⟨g, o, hA, hb, h⟩
  · exact .inl h
  · exact .inr ⟨g, o, hA, hs _ hb, h.keep hk hs hb⟩
theorem Lies.nil_ (w : World) (S : Nat → Prop) (A : Option Addr) : Lies w S A [] := .inl rfl
theorem NodesAt.get {w : World} {S : Nat → Prop} {g : Nat} : ∀ {l : List Tr} {o : Nat}, NodesAt w S g o l → ∀ (k : Nat) (h : k < l.length), NodeAt w S g (o + k * 4) l[k]
  | [], _, _, k, hk => by simp at hk
  | n :: l, o, h, 0, hk => by rw [NodesAt] at h; simpa using h.1
  | n :: l, o, h, k + 1, hk => by
    rw [NodesAt] at h
    have := NodesAt.get h.2 k (by simpa using hk)
    rw [show o + 4 + k * 4 = o + (k + 1) * 4 from by omega] at this
    exact this
/-- The k-th node of a slice. -/
theorem Lies.get {w : World} {S : Nat → Prop} {A : Option Addr} {l : List Tr} (h : Lies w S A l) (k : Nat) (hk : k < l.length) :
    ∃ g o, A = some ⟨g, o, none⟩ ∧ S g ∧ w.cell? ⟨g, o + k * 4, none⟩ = some (.int .i64 l[k].kind) ∧ w.cell? ⟨g, o + k * 4 + 1, none⟩ = some (.int .i64 l[k].pos) ∧ w.cell? ⟨g, o + k * 4 + 2, none⟩ = some (.string ⟨l[k].text.toArray⟩) ∧
      ∃ A' c', w.cell? ⟨g, o + k * 4 + 3, none⟩ = some (.slice A' l[k].l.length c') ∧ Lies w S A' l[k].l ∧ l[k].l.length ≤ c' ∧ c' ≤ maxLen := by
  rcases h with rfl | ⟨g, o, hA, hb, h⟩
  · simp at hk
  · have hn := h.get k hk
    rcases hx : l[k] with ⟨kd, p, t, c⟩
    rw [hx, NodeAt] at hn
    obtain ⟨h0, h1, h2, A', c', h3, h4, h5⟩ := hn
    exact ⟨g, o, hA, hb, h0, h1, h2, A', c', h3, h4, h5⟩

/-- The cells of a row of nodes, the children elsewhere. -/
def Heads (w : World) (S : Nat → Prop) : List Tr → List Value → Prop
  | [], vs => vs = []
  | .mk k p t l :: r, vs => ∃ A c vs', vs = .int .i64 k :: .int .i64 p :: .string ⟨t.toArray⟩ :: .slice A l.length c :: vs' ∧ (Lies w S A l ∧ l.length ≤ c ∧ c ≤ maxLen) ∧ Heads w S r vs'
theorem Heads.keep {w w' : World} {S S' : Nat → Prop} (hk : ∀ g, S g → w'.heap[g]? = w.heap[g]?) (hs : ∀ g, S g → S' g) : ∀ {l : List Tr} {vs : List Value}, Heads w S l vs → Heads w' S' l vs
  | [], vs, h => h
  | .mk k p t c :: r, vs, ⟨A, cc, vs', h1, h2, h3⟩ => ⟨A, cc, vs', h1, ⟨h2.1.keep hk hs, h2.2⟩, Heads.keep hk hs h3⟩
theorem Heads.len {w : World} {S : Nat → Prop} : ∀ {l : List Tr} {vs : List Value}, Heads w S l vs → vs.length = l.length * 4
  | [], vs, h => by rw [show vs = [] from h]; rfl
  | .mk k p t c :: r, vs, ⟨A, cc, vs', h1, h2, h3⟩ => by
    rw [h1]; simp only [List.length_cons]; rw [Heads.len h3]; omega
theorem Heads.snoc {w : World} {S : Nat → Prop} {k p : Int} {t : List UInt8} {c : List Tr} {A : Option Addr} (cc : Nat) (hl : Lies w S A c) (hcc : c.length ≤ cc ∧ cc ≤ maxLen) : ∀ {l : List Tr} {vs : List Value}, Heads w S l vs → Heads w S (l ++ [.mk k p t c]) (vs ++ [.int .i64 k, .int .i64 p, .string ⟨t.toArray⟩, .slice A c.length cc])
  | [], vs, h => by
    rw [show vs = [] from h]
    exact ⟨A, cc, [], rfl, ⟨hl, hcc⟩, rfl⟩
  | .mk k' p' t' c' :: r, vs, ⟨A', cc', vs', h1, h2, h3⟩ => by
    subst h1
    exact ⟨A', cc', _, rfl, h2, Heads.snoc cc hl hcc h3⟩
/-- A row with these cells holds the nodes. -/
theorem Heads.nodes {w : World} {S : Nat → Prop} {g : Nat} : ∀ {l : List Tr} {vs : List Value} {o : Nat}, Heads w S l vs → (∀ i, i < vs.length → w.cell? ⟨g, o + i, none⟩ = vs[i]?) → NodesAt w S g o l
  | [], vs, o, h, hc => by rw [NodesAt]; trivial
  | .mk k p t c :: r, vs, o, ⟨A, cc, vs', h1, h2, h3⟩, hc => by
    subst h1
    rw [NodesAt, NodeAt]
    have h0 := hc 0 (by simp)
    have h1 := hc 1 (by simp)
    have h2' := hc 2 (by simp)
    have h3' := hc 3 (by simp)
    refine ⟨⟨h0, h1, h2', A, cc, h3', h2.1, h2.2⟩, Heads.nodes h3 fun i hi => ?_⟩
    have := hc (i + 4) (by simpa using hi)
    rw [show o + (i + 4) = o + 4 + i from by omega] at this
    exact this
end Go.Proofs.Ytnjhbhbohnjckaa
