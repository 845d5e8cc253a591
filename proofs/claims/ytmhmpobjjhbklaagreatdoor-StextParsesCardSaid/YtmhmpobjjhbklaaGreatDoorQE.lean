/-
  Layer 40: The reference's parser in memory; its row.
-/
import Derived.Test.YtmhmpobjjhbklaaGreatDoorPA
import Derived.Test.YtmhmpobjjhbklaaGreatDoorPB
import Derived.Test.YtmhmpobjjhbklaaGreatDoorSQ8
import Derived.Test.YtmhmpobjjhbklaaGreatDoorSQ9
set_option linter.unusedVariables false
set_option linter.unusedSimpArgs false
namespace Go.Proofs.YtmhmpobjjhbklaaGreatDoor
open Go.RowKit
open St (InR BV)
structure QAt (w0 W : World) (Kp : Nat) (cs : Array Value) (S : Nat → Prop) (P R V B : Option Addr) (d : Nat) (ps rs vals : List Int) (L : List BV) : Prop where
  bel : Below w0.heap.size w0 W
  lo : w0.heap.size ≤ Kp
  cell : Var W Kp cs 27
  tps : RdZ W S P ps
  trs : RdZ W S R rs
  tvs : RdZ W S V vals
  own : W.ownsRow (Kp + 1) 44 7 (.slice B L.length d) L.length (L.flatMap encB)
  sS : ∀ g, S g → g < W.heap.size ∧ Kp < g ∧ (Value.slice B L.length d).ownBlock ≠ some g
section
variable {w0 W W' : World} {Kp g : Nat} {cs : Array Value} {S : Nat → Prop} {P R V B : Option Addr} {d : Nat} {ps rs vals : List Int} {L : List BV} {cur cur' : BV}
theorem QAt.lt (h : QAt w0 W Kp cs S P R V B d ps rs vals L) : Kp < W.heap.size := h.cell.lt
theorem QAt.ownlt (h : QAt w0 W Kp cs S P R V B d ps rs vals L) : ∀ j, (Value.slice B L.length d).ownBlock = some j → j < W.heap.size := fun j hj => (h.own.lt j hj).2
theorem QAt.below (h : QAt w0 W Kp cs S P R V B d ps rs vals L) (hb : Below W.heap.size W W') : QAt w0 W' Kp cs S P R V B d ps rs vals L :=
  ⟨h.bel.trans (hb.mono h.bel.size), h.lo, var_keep h.cell hb, h.tps.on hb, h.trs.on hb, h.tvs.on hb, own_belowW h.own hb, fun g hg => ⟨Nat.lt_of_lt_of_le (h.sS g hg).1 hb.size, (h.sS g hg).2⟩⟩
theorem QAt.keepK (h : QAt w0 W Kp cs S P R V B d ps rs vals L) (hg : W.grownBy W' (some Kp)) : Keep S W W' := keep_grown hg (fun hs => Nat.lt_irrefl _ (h.sS _ hs).2.1)
theorem QAt.keepB (h : QAt w0 W Kp cs S P R V B d ps rs vals L) (hg : W.grownBy W' (Value.slice B L.length d).ownBlock) : Keep S W W' := fun p v hs hc => hg.cell hc (fun e => (h.sS _ hs).2.2 e.symm)
theorem QAt.more (h : QAt w0 W Kp cs S P R V B d ps rs vals L) {N : Nat} (hK : Kp < N) (hN : ∀ j, (Value.slice B L.length d).ownBlock = some j → j < N) : QAt w0 W Kp cs (fun g => S g ∨ (N ≤ g ∧ g < W.heap.size)) P R V B d ps rs vals L :=
  ⟨h.bel, h.lo, h.cell, h.tps.mono fun _ _ hs => .inl hs, h.trs.mono fun _ _ hs => .inl hs, h.tvs.mono fun _ _ hs => .inl hs, h.own, fun g hg => by
    rcases hg with hg | ⟨h1, h2⟩
    · exact h.sS g hg
    · exact ⟨h2, by omega, fun e => by have := hN g e; omega⟩⟩
/-- A write into the form's own cells. -/
theorem QAt.put (h : QAt w0 W Kp cs S P R V B d ps rs vals L) {cs' : Array Value} {P' R' V' : Option Addr} {ps' rs' vals' : List Int} (hv : Var W' Kp cs' 27) (hg : W.grownBy W' (some Kp))
    (h1 : RdZ W S P' ps') (h2 : RdZ W S R' rs') (h3 : RdZ W S V' vals') : QAt w0 W' Kp cs' S P' R' V' B d ps' rs' vals' L := by
  have hk := h.keepK hg
  exact ⟨below_grown h.bel hg h.bel.size h.lo, h.lo, hv, h1.keep hk hg.size, h2.keep hk hg.size, h3.keep hk hg.size, own_stay h.own hg (by omega), fun g hs => ⟨Nat.lt_of_lt_of_le (h.sS g hs).1 hg.size, (h.sS g hs).2⟩⟩
/-- A block appended to the row of blocks. -/
theorem QAt.app (h : QAt w0 W Kp cs S P R V B d ps rs vals L) {b : BV} {B' : Option Addr} {d' : Nat} (own : W'.ownsRow (Kp + 1) 44 7 (.slice B' (L.length + 1) d') (L.length + 1) ((L ++ [b]).flatMap encB)) (hg : W.grownBy W' (Value.slice B L.length d).ownBlock)
    (hb : (Value.slice B' (L.length + 1) d').ownBlock = (Value.slice B L.length d).ownBlock ∨ (Value.slice B' (L.length + 1) d').ownBlock = some W.heap.size) :
    QAt w0 W' Kp cs S P R V B' d' ps rs vals (L ++ [b]) ∧ Keep S W W' ∧ W.heap.size ≤ W'.heap.size := by
  have hv := var_grown h.cell h.own (by decide) hg
  have hk := h.keepB hg
  have hbel : Below w0.heap.size w0 W' := h.bel.grown hg h.bel.size (fun j hj => by have := (h.own.lt j hj).1; have := h.lo; omega)
  have hl : (L ++ [b]).length = L.length + 1 := by simp
  refine ⟨⟨hbel, h.lo, hv, h.tps.keep hk hg.size, h.trs.keep hk hg.size, h.tvs.keep hk hg.size, ?_, ?_⟩, hk, hg.size⟩
  · rw [hl]; exact own
  · intro g hs
    obtain ⟨h1, h2, h3⟩ := h.sS g hs
    refine ⟨Nat.lt_of_lt_of_le h1 hg.size, h2, ?_⟩
    rw [hl]
    rcases hb with hb | hb
    · rw [hb]; exact h3
    · rw [hb]; intro e; injection e with e; omega
/-- A write into a block that is none of the form's. -/
theorem QAt.other (h : QAt w0 W Kp cs S P R V B d ps rs vals L) {K : Nat} (hg : W.grownBy W' (some K)) (hK : Kp < K) (hS : ¬ S K) (hB : (Value.slice B L.length d).ownBlock ≠ some K) : QAt w0 W' Kp cs S P R V B d ps rs vals L := by
  have hk := keep_grown hg hS
  exact ⟨below_grown h.bel hg h.bel.size (by have := h.lo; omega), h.lo, var_stay h.cell hg (by omega), h.tps.keep hk hg.size, h.trs.keep hk hg.size, h.tvs.keep hk hg.size, h.own.kept hg (.inr (fun e => hB e)), fun g hs => ⟨Nat.lt_of_lt_of_le (h.sS g hs).1 hg.size, (h.sS g hs).2⟩⟩
theorem grown_set7 (W : World) (g o : Nat) (u0 u1 u2 u3 u4 u5 u6 : Value) : W.grownBy (((((((W.setCell ⟨g, o, none⟩ u0).setCell ⟨g, o + 1, none⟩ u1).setCell ⟨g, o + 2, none⟩ u2).setCell ⟨g, o + 3, none⟩ u3).setCell ⟨g, o + 4, none⟩ u4).setCell ⟨g, o + 5, none⟩ u5).setCell ⟨g, o + 6, none⟩ u6) (some g) :=
  ((((((grown_set _ _ _ _).trans (grown_set _ _ _ _)).trans (grown_set _ _ _ _)).trans (grown_set _ _ _ _)).trans (grown_set _ _ _ _)).trans (grown_set _ _ _ _)).trans (grown_set _ _ _ _)
/-- The last block is written anew. -/
theorem QAt.set7 (h : QAt w0 W Kp cs S P R V (some ⟨g, 0, none⟩) d ps rs vals (L ++ [cur])) (cur' : BV) {u0 u1 u2 u3 u4 u5 u6 : Value} (he : encB cur' = [u0, u1, u2, u3, u4, u5, u6]) :
    QAt w0 (((((((W.setCell ⟨g, L.length * 7, none⟩ u0).setCell ⟨g, L.length * 7 + 1, none⟩ u1).setCell ⟨g, L.length * 7 + 2, none⟩ u2).setCell ⟨g, L.length * 7 + 3, none⟩ u3).setCell ⟨g, L.length * 7 + 4, none⟩ u4).setCell ⟨g, L.length * 7 + 5, none⟩ u5).setCell ⟨g, L.length * 7 + 6, none⟩ u6) Kp cs S P R V (some ⟨g, 0, none⟩) d ps rs vals (L ++ [cur']) := by
  have gs := grown_set7 W g (L.length * 7) u0 u1 u2 u3 u4 u5 u6
  have hl : (L ++ [cur']).length = (L ++ [cur]).length := by simp
  have hgK : Kp < g := (h.own.lt g rfl).1
  have hSg : ¬ S g := fun hs => (h.sS g hs).2.2 rfl
  have hk := keep_grown gs hSg
  have hpl : (L.flatMap encB).length = L.length * 7 := flat_len encB_len L
  have hfl : ((L ++ [cur]).flatMap encB).length = L.length * 7 + 7 := by rw [flat_len encB_len]; simp; omega
  have o0 := own_set h.own (i := L.length * 7) (by omega) u0
  have o1 := own_set o0 (i := L.length * 7 + 1) (by simp only [List.length_set]; omega) u1
  have o2 := own_set o1 (i := L.length * 7 + 2) (by simp only [List.length_set]; omega) u2
  have o3 := own_set o2 (i := L.length * 7 + 3) (by simp only [List.length_set]; omega) u3
  have o4 := own_set o3 (i := L.length * 7 + 4) (by simp only [List.length_set]; omega) u4
  have o5 := own_set o4 (i := L.length * 7 + 5) (by simp only [List.length_set]; omega) u5
  have o6 := own_set o5 (i := L.length * 7 + 6) (by simp only [List.length_set]; omega) u6
  have e7 : (((((((((L ++ [cur]).flatMap encB).set (L.length * 7) u0).set (L.length * 7 + 1) u1).set (L.length * 7 + 2) u2).set (L.length * 7 + 3) u3).set (L.length * 7 + 4) u4).set (L.length * 7 + 5) u5).set (L.length * 7 + 6) u6) = (L ++ [cur']).flatMap encB := by
    have hs : ∀ (xs : List Value) (j : Nat) (u : Value), (L.flatMap encB ++ xs).set (L.length * 7 + j) u = L.flatMap encB ++ xs.set j u := fun xs j u => by
      rw [← hpl, List.set_append_right _ _ (by omega)]; congr 1; congr 1; omega
    have e1 : (L ++ [cur]).flatMap encB = L.flatMap encB ++ encB cur := by simp
    have e2 : (L ++ [cur']).flatMap encB = L.flatMap encB ++ encB cur' := by simp
    have hs0 : ∀ (xs : List Value) (u : Value), (L.flatMap encB ++ xs).set (L.length * 7) u = L.flatMap encB ++ xs.set 0 u := fun xs u => hs xs 0 u
    rw [e1, e2, he, hs0, hs, hs, hs, hs, hs, hs]
    simp only [encB, List.set_cons_zero, List.set_cons_succ]
  rw [e7] at o6
  refine ⟨below_grown h.bel gs h.bel.size (by have := h.lo; omega), h.lo, ?_, h.tps.keep hk gs.size, h.trs.keep hk gs.size, h.tvs.keep hk gs.size, ?_, ?_⟩
  · exact var_stay h.cell gs (by omega)
  · rw [hl]; exact o6
  · intro k hs
    rw [hl]
    obtain ⟨h1, h2⟩ := h.sS k hs
    exact ⟨Nat.lt_of_lt_of_le h1 gs.size, h2⟩
end
/-- The form inside a block. -/
structure QO (w0 W : World) (Kp : Nat) (cs : Array Value) (S : Nat → Prop) (P R V : Option Addr) (g d : Nat) (ps rs vals : List Int) (L : List BV) (cur : BV) (Ai : Option Addr) (ci : Nat) (M : List IV) : Prop where
  p : QAt w0 W Kp cs S P R V (some ⟨g, 0, none⟩) d ps rs vals (L ++ [cur])
  bc : ∀ b ∈ L, BC S W b
  par : RdZ W S cur.Ap cur.params
  own : W.ownsRow (Kp + 1) 48 7 (.slice Ai M.length ci) M.length (M.flatMap encI)
  ic : ∀ v ∈ M, IC S W v
  oS : ∀ k, S k → (Value.slice Ai M.length ci).ownBlock ≠ some k
section
variable {w0 W W' : World} {Kp : Nat} {cs : Array Value} {S : Nat → Prop} {P R V Ai : Option Addr} {d g ci : Nat} {ps rs vals : List Int} {L : List BV} {cur : BV} {M : List IV}
theorem QO.below (h : QO w0 W Kp cs S P R V g d ps rs vals L cur Ai ci M) (hb : Below W.heap.size W W') : QO w0 W' Kp cs S P R V g d ps rs vals L cur Ai ci M :=
  ⟨h.p.below hb, fun b hb' => (h.bc b hb').keep (Below.keep hb S) hb.size, h.par.on hb, own_belowW h.own hb, fun v hv => (h.ic v hv).keep (Below.keep hb S) hb.size, h.oS⟩
theorem QO.more (h : QO w0 W Kp cs S P R V g d ps rs vals L cur Ai ci M) {N : Nat} (hK : Kp < N) (hg : g < N) (hI : ∀ j, (Value.slice Ai M.length ci).ownBlock = some j → j < N) : QO w0 W Kp cs (fun k => S k ∨ (N ≤ k ∧ k < W.heap.size)) P R V g d ps rs vals L cur Ai ci M :=
  ⟨h.p.more hK (fun j hj => by have e : g = j := Option.some.inj hj; omega), fun b hb' => (h.bc b hb').mono fun _ _ hs => .inl hs, h.par.mono fun _ _ hs => .inl hs, h.own, fun v hv => (h.ic v hv).mono fun _ _ hs => .inl hs, fun k hk e => by
    rcases hk with hk | ⟨h1, h2⟩
    · exact h.oS k hk e
    · have := hI k e; omega⟩
theorem QO.other (h : QO w0 W Kp cs S P R V g d ps rs vals L cur Ai ci M) {K : Nat} (hg : W.grownBy W' (some K)) (hK : Kp < K) (hS : ¬ S K) (hB : g ≠ K) (hI : (Value.slice Ai M.length ci).ownBlock ≠ some K) : QO w0 W' Kp cs S P R V g d ps rs vals L cur Ai ci M := by
  have hk := keep_grown hg hS
  exact ⟨h.p.other hg hK hS (fun e => hB (by injection e)), fun b hb' => (h.bc b hb').keep hk hg.size, h.par.keep hk hg.size, h.own.kept hg (.inr (fun e => hI e)), fun v hv => (h.ic v hv).keep hk hg.size, h.oS⟩
/-- An instruction appended. -/
theorem QO.appI (h : QO w0 W Kp cs S P R V g d ps rs vals L cur Ai ci M) {v : IV} (hv : IC S W v) {A : Option Addr} {c : Nat} (own : W'.ownsRow (Kp + 1) 48 7 (.slice A (M.length + 1) c) (M.length + 1) ((M ++ [v]).flatMap encI)) (hg : W.grownBy W' (Value.slice Ai M.length ci).ownBlock)
    (hb : (Value.slice A (M.length + 1) c).ownBlock = (Value.slice Ai M.length ci).ownBlock ∨ (Value.slice A (M.length + 1) c).ownBlock = some W.heap.size) :
    QO w0 W' Kp cs S P R V g d ps rs vals L cur A c (M ++ [v]) := by
  obtain ⟨hp, bc, par, own0, ic, oS⟩ := h
  have hk1 : Keep S W W' := fun p u hs hc => hg.cell hc (fun e => oS _ hs e.symm)
  have hap := own_apart own0 hp.own (by decide)
  have ownB : W'.ownsRow (Kp + 1) 44 7 (.slice (some ⟨g, 0, none⟩) (L ++ [cur]).length d) (L ++ [cur]).length ((L ++ [cur]).flatMap encB) := hp.own.kept hg (.inr (fun e => hap g e.symm rfl))
  have cellB := var_grown hp.cell own0 (by decide) hg
  have belB : Below w0.heap.size w0 W' := hp.bel.grown hg hp.bel.size (fun j hj => by have := (own0.lt j hj).1; have := hp.lo; omega)
  have hl2 : (M ++ [v]).length = M.length + 1 := by simp
  refine ⟨⟨belB, hp.lo, cellB, hp.tps.keep hk1 hg.size, hp.trs.keep hk1 hg.size, hp.tvs.keep hk1 hg.size, ownB, fun k hs => ⟨Nat.lt_of_lt_of_le (hp.sS k hs).1 hg.size, (hp.sS k hs).2⟩⟩, fun b hb => (bc b hb).keep hk1 hg.size, par.keep hk1 hg.size, by rw [hl2]; exact own, fun u hu => ?_, fun k hs => ?_⟩
  · rcases List.mem_append.1 hu with hu | hu
    · exact (ic u hu).keep hk1 hg.size
    · rw [List.mem_singleton.1 hu]; exact hv.keep hk1 hg.size
  · rw [hl2]
    rcases hb with hb | hb
    · rw [hb]; exact oS k hs
    · rw [hb]; intro e; injection e with e; have := (hp.sS k hs).1; omega
/-- The last block written anew. -/
theorem QO.set7 (h : QO w0 W Kp cs S P R V g d ps rs vals L cur Ai ci M) (cur' : BV) {u0 u1 u2 u3 u4 u5 u6 : Value} (he : encB cur' = [u0, u1, u2, u3, u4, u5, u6]) (hp : cur'.Ap = cur.Ap ∧ cur'.params = cur.params) :
    QO w0 (((((((W.setCell ⟨g, L.length * 7, none⟩ u0).setCell ⟨g, L.length * 7 + 1, none⟩ u1).setCell ⟨g, L.length * 7 + 2, none⟩ u2).setCell ⟨g, L.length * 7 + 3, none⟩ u3).setCell ⟨g, L.length * 7 + 4, none⟩ u4).setCell ⟨g, L.length * 7 + 5, none⟩ u5).setCell ⟨g, L.length * 7 + 6, none⟩ u6) Kp cs S P R V g d ps rs vals L cur' Ai ci M := by
  have gs := grown_set7 W g (L.length * 7) u0 u1 u2 u3 u4 u5 u6
  have hSg : ¬ S g := fun hs => (h.p.sS g hs).2.2 rfl
  have hk := keep_grown gs hSg
  have hap := own_apart h.own h.p.own (by decide)
  exact ⟨h.p.set7 cur' he, fun b hb => (h.bc b hb).keep hk gs.size, by rw [hp.1, hp.2]; exact h.par.keep hk gs.size, h.own.kept gs (.inr (fun e => hap g e rfl)), fun v hv => (h.ic v hv).keep hk gs.size, h.oS⟩
/-- The block is closed. -/
theorem QO.close (h : QO w0 W Kp cs S P R V g d ps rs vals L cur cur.Ai cur.ci M) (hi : M.map Prod.fst = cur.ins) (ha : RdZ W S cur.Aa cur.fin.args) (hc : RdT W S cur.At 2 (EdgeAt S) cur.fin.edges) :
    ∃ S', QAt w0 W Kp cs S' P R V (some ⟨g, 0, none⟩) d ps rs vals (L ++ [cur]) ∧ ∀ b ∈ L ++ [cur], BC S' W b := by
  obtain ⟨hp, bc, par, own, ic, oS⟩ := h
  have hS : ∀ k, (S k ∨ (Value.slice cur.Ai M.length cur.ci).ownBlock = some k) → k < W.heap.size ∧ Kp < k ∧ (Value.slice (some ⟨g, 0, none⟩) (L ++ [cur]).length d).ownBlock ≠ some k := by
    intro k hk
    rcases hk with hk | hk
    · exact hp.sS k hk
    · have := own.lt k hk
      exact ⟨this.2, by omega, own_apart own hp.own (by decide) k hk⟩
  refine ⟨fun k => S k ∨ (Value.slice cur.Ai M.length cur.ci).ownBlock = some k, ⟨hp.bel, hp.lo, hp.cell, hp.tps.mono fun _ _ h => .inl h, hp.trs.mono fun _ _ h => .inl h, hp.tvs.mono fun _ _ h => .inl h, hp.own, hS⟩, fun b hb => ?_⟩
  rcases List.mem_append.1 hb with hb | hb
  · exact (bc b hb).mono fun _ _ h => .inl h
  · rw [List.mem_singleton.1 hb]
    refine ⟨par.mono fun _ _ h => .inl h, ?_, ha.mono fun _ _ h => .inl h, RdT.mono hc (fun _ _ h => .inl h) (EdgeAt.mono fun _ _ h => .inl h)⟩
    have := ins_rdt (S := S) (S' := fun k => S k ∨ (Value.slice cur.Ai M.length cur.ci).ownBlock = some k) own ic (fun _ h => .inl h) (fun _ h => .inr h)
    rw [hi] at this
    exact this
end
/-- The form between two blocks. -/
def QCl (w0 W : World) (Kp : Nat) (cs : Array Value) (P R V B : Option Addr) (d : Nat) (x : St.Ssa) : Prop := ∃ (S : Nat → Prop) (L : List BV), QAt w0 W Kp cs S P R V B d x.ps x.rs x.vals L ∧ L.map St.BV.blk = x.blocks ∧ ∀ b ∈ L, BC S W b
/-- The form inside a block. -/
def QOp (w0 W : World) (Kp : Nat) (cs : Array Value) (P R V : Option Addr) (g d : Nat) (x : St.Ssa) (params : List Int) (ins : List St.Ins) : Prop := ∃ (S : Nat → Prop) (L : List BV) (cur : BV) (M : List IV), QO w0 W Kp cs S P R V g d x.ps x.rs x.vals L cur cur.Ai cur.ci M ∧ L.map St.BV.blk = x.blocks ∧ cur.params = params ∧ M.map Prod.fst = cur.ins ∧ cur.ins = ins ∧
  cur.fin = St.fin0z ∧ cur.Aa = none ∧ cur.ca = 0 ∧ cur.At = none ∧ cur.ct = 0
end Go.Proofs.YtmhmpobjjhbklaaGreatDoor
set_option linter.unusedVariables false
set_option linter.unusedSimpArgs false
namespace Go.Proofs.YtmhmpobjjhbklaaGreatDoor
open Go.RowKit
open St (InR BV)
def encBa (b : BV) : Array Value := (encB b).toArray
theorem QO.cells {w0 W : World} {Kp : Nat} {cs : Array Value} {S : Nat → Prop} {P R V Ai : Option Addr} {d g ci : Nat} {ps rs vals : List Int} {L : List BV} {cur : BV} {M : List IV} (h : QO w0 W Kp cs S P R V g d ps rs vals L cur Ai ci M) : g < W.heap.size ∧ Kp < g ∧ ∀ j, j < 7 → W.cell? ⟨g, L.length * 7 + j, none⟩ = (encB cur)[j]? ∧ W.frozen? ⟨g, L.length * 7 + j, none⟩ = false := by
  refine ⟨(h.p.own.lt g rfl).2, (h.p.own.lt g rfl).1, fun j hj => ?_⟩
  obtain ⟨g2, hgg, -, -, hc, hf⟩ := own_cells h.p.own (i := L.length * 7 + j) (by rw [flat_len encB_len]; simp; omega)
  cases hgg
  have h1 := flat_at encB_len (L ++ [cur]) L.length (by simp) j hj
  rw [List.getElem?_eq_getElem (by rw [flat_len encB_len]; simp; omega)] at h1
  rw [List.getElem_append_right (Nat.le_refl _)] at h1
  simp only [Nat.sub_self, List.getElem_cons_zero] at h1
  exact ⟨hc.trans h1, hf⟩
/-- What row gives. -/
def RowOut (w0 w' : World) (Kp : Nat) (cs : Array Value) (P R V : Option Addr) (g d : Nat) (x : St.Ssa) (params : List Int) (ins : List St.Ins) (c1 c2 c3 : Nat) (y : St.Ins × Bool) (f : St.Fin × Bool) (e : Ending) : Prop :=
  e = .returned (.tuple #[.agg #[.slice P x.ps.length c1, .slice R x.rs.length c2, .slice V x.vals.length c3, .slice (some ⟨g, 0, none⟩) (x.blocks.length + 1) d], .bool (!f.2), .bool (y.2 || f.2)]) ∧ Below w0.heap.size w0 w' ∧ Var w' Kp cs 27 ∧
    (if f.2 then QCl w0 w' Kp cs P R V (some ⟨g, 0, none⟩) d ⟨x.ps, x.rs, x.vals, x.blocks ++ [⟨params, ins, f.1⟩]⟩ else if y.2 then QOp w0 w' Kp cs P R V g d x params (ins ++ [y.1]) else True)
theorem var_apart {W : World} {base : Nat} {e t : TypeId} {k n : Nat} {v : Value} {xs : List Value} {K : Nat} {cs : Array Value} (hv : Var W K cs t) (h : W.ownsRow base e k v n xs) (hte : t ≠ e) : v.ownBlock ≠ some K := fun hk => by
  obtain ⟨_, h⟩ := h
  rcases h with ⟨rfl, _⟩ | ⟨g1, c1, u1, rfl, _, hh1, _⟩
  · cases hk
  simp [Value.ownBlock] at hk
  subst hk
  unfold Var at hv
  rw [hh1] at hv
  injection hv with hv
  injection hv with _ h
  exact hte h.symm
/-- The state ahead of the store of the block. -/
structure RowAt (w0 w W : World) (Kp : Nat) (cs : Array Value) (S : Nat → Prop) (P R V : Option Addr) (g d : Nat) (ps rs vals : List Int) (L : List BV) (cur : BV) (Ai : Option Addr) (ci : Nat) (M : List IV) (fc : Array Value) (K8 : Nat) (cur' : BV) : Prop where
  q : QO w0 W Kp cs S P R V g d ps rs vals L cur Ai ci M
  vf : Var W w.heap.size fc 27
  vz : Var W (w.heap.size + 1) #[.slice none 0 0, .slice none 0 0, .slice none 0 0, .slice none 0 0] 27
  vb : Var W K8 (encBa cur') 44
  l0 : Kp < w.heap.size
  l1 : w.heap.size + 1 < K8
  l2 : g < w.heap.size
  n1 : ¬ S w.heap.size
  n2 : ¬ S (w.heap.size + 1)
  n3 : ¬ S K8
section
variable {w0 w W W' : World} {Kp : Nat} {cs : Array Value} {S : Nat → Prop} {P R V Ai : Option Addr} {d g ci : Nat} {ps rs vals : List Int} {L : List BV} {cur cur' : BV} {M : List IV} {fc : Array Value} {K8 : Nat}
theorem RowAt.below (h : RowAt w0 w W Kp cs S P R V g d ps rs vals L cur Ai ci M fc K8 cur') (hb : Below W.heap.size W W') : RowAt w0 w W' Kp cs S P R V g d ps rs vals L cur Ai ci M fc K8 cur' :=
  ⟨h.q.below hb, var_keep h.vf hb, var_keep h.vz hb, var_keep h.vb hb, h.l0, h.l1, h.l2, h.n1, h.n2, h.n3⟩
theorem RowAt.ni (h : RowAt w0 w W Kp cs S P R V g d ps rs vals L cur Ai ci M fc K8 cur') : (Value.slice Ai M.length ci).ownBlock ≠ some K8 ∧ (Value.slice Ai M.length ci).ownBlock ≠ some (w.heap.size + 1) :=
  ⟨var_apart h.vb h.q.own (by decide), var_apart h.vz h.q.own (by decide)⟩
/-- A write into the block's own variable. -/
theorem RowAt.put (h : RowAt w0 w W Kp cs S P R V g d ps rs vals L cur Ai ci M fc K8 cur') {cur2 : BV} (hv : Var W' K8 (encBa cur2) 44) (hg : W.grownBy W' (some K8)) : RowAt w0 w W' Kp cs S P R V g d ps rs vals L cur Ai ci M fc K8 cur2 := by
  have := h.l1
  have := h.l2
  have := h.l0
  exact ⟨h.q.other hg (by omega) h.n3 (by omega) h.ni.1, var_stay h.vf hg (by omega), var_stay h.vz hg (by omega), hv, h.l0, h.l1, h.l2, h.n1, h.n2, h.n3⟩
/-- An instruction appended. -/
theorem RowAt.app (h : RowAt w0 w W Kp cs S P R V g d ps rs vals L cur Ai ci M fc K8 cur') {v : IV} (hv : IC S W v) {A : Option Addr} {c : Nat} (own : W'.ownsRow (Kp + 1) 48 7 (.slice A (M.length + 1) c) (M.length + 1) ((M ++ [v]).flatMap encI)) (hg : W.grownBy W' (Value.slice Ai M.length ci).ownBlock)
    (hb : (Value.slice A (M.length + 1) c).ownBlock = (Value.slice Ai M.length ci).ownBlock ∨ (Value.slice A (M.length + 1) c).ownBlock = some W.heap.size) :
    RowAt w0 w W' Kp cs S P R V g d ps rs vals L cur A c (M ++ [v]) fc K8 cur' :=
  ⟨h.q.appI hv own hg hb, var_grown h.vf h.q.own (by decide) hg, var_grown h.vz h.q.own (by decide) hg, var_grown h.vb h.q.own (by decide) hg, h.l0, h.l1, h.l2, h.n1, h.n2, h.n3⟩
/-- The block is stored. -/
theorem RowAt.set7 (h : RowAt w0 w W Kp cs S P R V g d ps rs vals L cur Ai ci M fc K8 cur') {u0 u1 u2 u3 u4 u5 u6 : Value} (he : encB cur' = [u0, u1, u2, u3, u4, u5, u6]) (hp : cur'.Ap = cur.Ap ∧ cur'.params = cur.params) :
    RowAt w0 w (((((((W.setCell ⟨g, L.length * 7, none⟩ u0).setCell ⟨g, L.length * 7 + 1, none⟩ u1).setCell ⟨g, L.length * 7 + 2, none⟩ u2).setCell ⟨g, L.length * 7 + 3, none⟩ u3).setCell ⟨g, L.length * 7 + 4, none⟩ u4).setCell ⟨g, L.length * 7 + 5, none⟩ u5).setCell ⟨g, L.length * 7 + 6, none⟩ u6) Kp cs S P R V g d ps rs vals L cur' Ai ci M fc K8 cur' := by
  have gs := grown_set7 W g (L.length * 7) u0 u1 u2 u3 u4 u5 u6
  have := h.l1
  have := h.l2
  exact ⟨h.q.set7 cur' he hp, var_stay h.vf gs (by omega), var_stay h.vz gs (by omega), var_stay h.vb gs (by omega), h.l0, h.l1, h.l2, h.n1, h.n2, h.n3⟩
/-- The result is stored. -/
theorem RowAt.res (h : RowAt w0 w W Kp cs S P R V g d ps rs vals L cur Ai ci M fc K8 cur') (hg : W.grownBy W' (some (w.heap.size + 1))) : QO w0 W' Kp cs S P R V g d ps rs vals L cur Ai ci M := by
  have := h.l0
  have := h.l2
  exact h.q.other hg (by omega) h.n2 (by omega) h.ni.2
end
theorem put5at {W : World} {K : Nat} {t : TypeId} {a0 a1 a2 a3 a4 a5 a6 : Value} (h : Var W K #[a0, a1, a2, a3, a4, a5, a6] t) (b2 b3 b4 b5 b6 : Value) :
    Var (((((W.setCell ⟨K, 2, none⟩ b2).setCell ⟨K, 3, none⟩ b3).setCell ⟨K, 4, none⟩ b4).setCell ⟨K, 5, none⟩ b5).setCell ⟨K, 6, none⟩ b6) K #[a0, a1, b2, b3, b4, b5, b6] t ∧
    W.grownBy (((((W.setCell ⟨K, 2, none⟩ b2).setCell ⟨K, 3, none⟩ b3).setCell ⟨K, 4, none⟩ b4).setCell ⟨K, 5, none⟩ b5).setCell ⟨K, 6, none⟩ b6) (some K) :=
  ⟨by have h7 := ((((h.set 2 b2).set 3 b3).set 4 b4).set 5 b5).set 6 b6; simp only [List.setIfInBounds_toArray, List.set_cons_zero, List.set_cons_succ] at h7; exact h7,
   (grown_set _ _ _ _).trans ((grown_set _ _ _ _).trans ((grown_set _ _ _ _).trans ((grown_set _ _ _ _).trans (grown_set _ _ _ _))))⟩
set_option maxHeartbeats 16000000 in
set_option maxRecDepth 100000 in
theorem rrow_any (w0 : World) (Kp : Nat) (cs : Array Value) (P R V : Option Addr) (g d : Nat) (x : St.Ssa) (params : List Int) (ins : List St.Ins) (c1 c2 c3 : Nat) (s : St.W) (hs : s.length ≤ 8000) (hbl : x.blocks.length ≤ 1000000) (hil : ins.length ≤ 1000000) (w : World) (h : QOp w0 w Kp cs P R V g d x params ins)
    (hnb : (St.rfinP s).2 = true → (St.rinsP s).2 = false) :
    Calls Tryz.prog 35 #[.agg #[.slice P x.ps.length c1, .slice R x.rs.length c2, .slice V x.vals.length c3, .slice (some ⟨g, 0, none⟩) (x.blocks.length + 1) d], .string ⟨s.toArray⟩] w fun e w' => RowOut w0 w' Kp cs P R V g d x params ins c1 c2 c3 (St.rinsP s) (St.rfinP s) e := by
  have HI := Lib.hid (fun W => rreadIns_any s hs W)
  have HE := Lib.hid (fun W => rreadEnd_any s hs W)
  obtain ⟨⟨y, yb⟩, hy⟩ : ∃ y, St.rinsP s = y := ⟨_, rfl⟩
  obtain ⟨⟨f, fb⟩, hf⟩ : ∃ y, St.rfinP s = y := ⟨_, rfl⟩
  rw [hy] at HI hnb
  rw [hf] at HE hnb
  rw [hy, hf]
  dsimp only at hnb
  clear hy hf
  obtain ⟨zI, bI, hinfo, hzs, hbb⟩ := info_sins2
  obtain ⟨i0, hi0, hz0, hz1, hz2⟩ := info_parts hinfo
  obtain ⟨S, L, cur, M, hA, hL, rfl, hM, rfl, hcf, hAa, hca, hAt, hct⟩ := h
  obtain ⟨ps, rs, vals, blocks⟩ := x
  dsimp only at *
  have hLl : blocks.length = L.length := by rw [← hL]; simp
  have hMl : cur.ins.length = M.length := by rw [← hM]; simp
  rw [hLl] at hbl ⊢
  rw [hMl] at hil
  have HL := Lib.hid hL
  have HM := Lib.hid hM
  have HMl := Lib.hid hMl
  clear hMl
  have HZ := Lib.hid (And.intro hcf (And.intro hAa (And.intro hca (And.intro hAt hct))))
  clear hL hM hLl hcf hAa hca hAt hct
  obtain ⟨FC, hFC⟩ : ∃ z, (#[.slice P ps.length c1, .slice R rs.length c2, .slice V vals.length c3, .slice (some ⟨g, 0, none⟩) (L.length + 1) d] : Array Value) = z := ⟨_, rfl⟩
  have HFC := Lib.hid hFC
  clear hFC
  have b1 := (Below.refl w.heap.size w).alloc (Nat.le_refl _) (.cells #[.slice P ps.length c1, .slice R rs.length c2, .slice V vals.length c3, .slice (some ⟨g, 0, none⟩) (L.length + 1) d] 27)
  have v1 := Var.new w #[.slice P ps.length c1, .slice R rs.length c2, .slice V vals.length c3, .slice (some ⟨g, 0, none⟩) (L.length + 1) d] 27
  have v2 := Var.newE (w.alloc (.cells #[.slice P ps.length c1, .slice R rs.length c2, .slice V vals.length c3, .slice (some ⟨g, 0, none⟩) (L.length + 1) d] 27)) #[.slice none 0 0, .slice none 0 0, .slice none 0 0, .slice none 0 0] 27 (K := w.heap.size + 1) (by simp)
  have b2 := b1.alloc b1.size (.cells #[.slice none 0 0, .slice none 0 0, .slice none 0 0, .slice none 0 0] 27)
  have HV := Lib.hid (And.intro b2 (And.intro (v1.alloc (.cells #[.slice none 0 0, .slice none 0 0, .slice none 0 0, .slice none 0 0] 27)) v2))
  clear b1 v1 v2 b2
  have w1 : IntKind.i64.wrap (L.length : Int) = (L.length : Int) := by rw [IntKind.wrap_i64]; omega
  have w3 : (0 : Int) ≤ (L.length : Int) := by omega
  have w4 : (L.length : Int) < (L.length : Int) + 1 := by omega
  have w2 : ¬ (L.length + 1 = 0) := by omega
  have HA := Lib.hid hA
  have l0 := hA.p.lt
  obtain ⟨l2, -, -⟩ := hA.cells
  clear hA
  go_enter Tryz.func35, Tryz.ntmps35
  go_upto_region 1 with fail
  refine at_code (F := fun W => Below w.heap.size w W ∧ Var W w.heap.size #[.slice P ps.length c1, .slice R rs.length c2, .slice V vals.length c3, .slice (some ⟨g, 0, none⟩) (L.length + 1) d] 27 ∧ Var W (w.heap.size + 1) #[.slice none 0 0, .slice none 0 0, .slice none 0 0, .slice none 0 0] 27) HV.out ?_
  clear HV
  rintro W1 ⟨b1, v1, v2⟩
  obtain ⟨⟨p0, p1, p2, p3⟩, -, -, -, -⟩ := cells4' v1
  have hQ := HA.out.below b1
  have HB1 := Lib.hid b1
  obtain ⟨-, -, hc⟩ := hQ.cells
  have f0 := (hc 0 (by omega)).1
  have f1 := (hc 1 (by omega)).1
  have f2 := (hc 2 (by omega)).1
  have f3 := (hc 3 (by omega)).1
  have f4 := (hc 4 (by omega)).1
  have f5 := (hc 5 (by omega)).1
  have f6 := (hc 6 (by omega)).1
  simp only [encB, List.getElem?_cons_zero, List.getElem?_cons_succ, Nat.add_zero] at f0 f1 f2 f3 f4 f5 f6
  rw [HMl.out] at f1
  clear hc
  have hsz1 := v2.lt
  have hW1 := v1.lt
  go_upto_region 3 with fail
  have HQ1 := Lib.hid hQ
  obtain ⟨K8, hK8⟩ : ∃ K, W1.heap.size = K := ⟨_, rfl⟩
  have hKn : w.heap.size + 1 < K8 := by omega
  refine at_code (F := fun W => W.heap.size = K8 + 1 ∧ RowAt w0 w W Kp cs S P R V g d ps rs vals L cur cur.Ai cur.ci M FC K8 cur) ?h3 ?_
  case h3 =>
    exact ⟨by simp [hK8], (hQ.below ((Below.refl _ _).alloc (Nat.le_refl _) _)), by rw [← HFC.out]; exact v1.alloc _, v2.alloc _, (by rw [← hK8]; unfold encBa encB; rw [HMl.out]; exact Var.new _ _ _), l0, hKn, l2, fun hs => Nat.lt_irrefl _ (HA.out.p.sS _ hs).1, fun hs => by have := (HA.out.p.sS _ hs).1; omega, fun hs => by have := (HA.out.p.sS _ hs).1; omega⟩
  simp only [hK8]
  rintro W2 ⟨hN, HR⟩
  clear hQ HQ1 v1 v2 b1 f0 f1 f2 f3 f4 f5 f6 p0 p1 p2 p3 hsz1 hW1 HB1
  go_upto_region 4 with (go_at_call 74; refine (HI.out _).mono ?_; rintro e w3 ⟨⟨A4, c4, B4, d4, rfl, r1, r2⟩, hb3⟩; unfold insC; dsimp only; dsimp only at r1 r2)
  have ha3 := hb3.alloc hb3.size (.cells (insC y A4 c4 B4 d4) 48)
  have ha3' := (Below.refl w3.heap.size w3).alloc (Nat.le_refl _) (.cells (insC y A4 c4 B4 d4) 48)
  refine at_code (F := fun W => Below W2.heap.size W2 W ∧ Var W w3.heap.size (insC y A4 c4 B4 d4) 48 ∧ RdZ W (fun k => W2.heap.size ≤ k) A4 y.args ∧ RdZ W (fun k => W2.heap.size ≤ k) B4 y.outs) ⟨ha3, Var.new _ _ _, RdZ.on r1 ha3', RdZ.on r2 ha3'⟩ ?_
  obtain ⟨K9, hK9⟩ : ∃ K, w3.heap.size = K := ⟨_, rfl⟩
  simp only [hK9]
  clear ha3 ha3' r1 r2 hb3 hK9 HI
  rintro W3 ⟨hb3, v9, r1, r2⟩
  have HB3 := Lib.hid hb3
  have HV9 := Lib.hid v9
  have HR1 := Lib.hid r1
  have HR2 := Lib.hid r2
  clear hb3 v9 r1 r2
  go_upto_region 5 with (go_at_call 75; refine (HE.out _).mono ?_; rintro e w4 ⟨⟨A5, c5, B5, d5, rfl, r3, r4⟩, hb4⟩; unfold finC; dsimp only; dsimp only at r3 r4)
  have hs3 := HB3.out.size
  have hs4 := hb4.size
  have ha4 := (HB3.out.trans (hb4.mono HB3.out.size)).alloc (by omega) (.cells (finC f A5 c5 B5 f.edges.length d5) 42)
  have ha4' := (Below.refl w4.heap.size w4).alloc (Nat.le_refl _) (.cells (finC f A5 c5 B5 f.edges.length d5) 42)
  have hb4' := hb4.alloc hb4.size (.cells (finC f A5 c5 B5 f.edges.length d5) 42)
  have r4' : RdT w4 (fun g => W3.heap.size ≤ g) B5 2 (EdgeAt (fun g => W3.heap.size ≤ g)) f.edges := r4
  refine at_code (F := fun W => ∃ S3, RowAt w0 w W Kp cs S3 P R V g d ps rs vals L cur cur.Ai cur.ci M FC K8 cur ∧ (Var W K9 (insC y A4 c4 B4 d4) 48 ∧ RdZ W S3 A4 y.args ∧ RdZ W S3 B4 y.outs) ∧ Var W w4.heap.size (finC f A5 c5 B5 f.edges.length d5) 42 ∧ RdZ W S3 A5 f.args ∧ RdT W S3 B5 2 (EdgeAt S3) f.edges) (by
    have Q := HR.below ha4
    refine ⟨fun k => S k ∨ (W2.heap.size ≤ k ∧ k < (w4.alloc (.cells (finC f A5 c5 B5 f.edges.length d5) 42)).heap.size), ⟨Q.q.more (by omega) (by omega) (fun j hj => (HR.q.own.lt j hj).2), Q.vf, Q.vz, Q.vb, l0, HR.l1, l2, ?_, ?_, ?_⟩, ⟨var_keep HV9.out hb4', (HR1.out.on hb4').mono fun k h1 h2 => .inr ⟨h2, h1⟩, (HR2.out.on hb4').mono fun k h1 h2 => .inr ⟨h2, h1⟩⟩, Var.new _ _ _, (RdZ.on r3 ha4').mono fun k h1 h2 => .inr ⟨Nat.le_trans hs3 h2, h1⟩, RdT.mono (r4'.keep (fun g o x hs' hx => EdgeAt.keep (Below.keep ha4' _) ha4'.size g o x hs' hx) ha4'.size) (fun k h1 h2 => .inr ⟨Nat.le_trans hs3 h2, h1⟩) (EdgeAt.mono fun k h1 h2 => .inr ⟨Nat.le_trans hs3 h2, h1⟩)⟩
    · rintro (hs | ⟨h1, h2⟩)
      · exact HR.n1 hs
      · have := HR.l1; omega
    · rintro (hs | ⟨h1, h2⟩)
      · exact HR.n2 hs
      · have := HR.l1; omega
    · rintro (hs | ⟨h1, h2⟩)
      · exact HR.n3 hs
      · omega) ?_
  obtain ⟨K11, hK11⟩ : ∃ K, w4.heap.size = K := ⟨_, rfl⟩
  simp only [hK11]
  clear ha4 ha4' hb4' r3 r4 r4' hb4 hs3 hs4 hK11 HE HR HB3 HV9 HR1 HR2 hN
  rintro W4 ⟨S3, HR, ⟨v9, r1, r2⟩, v11, r3, r4⟩
  rcases yb with _ | _
  · rcases fb with _ | _
    · clear v9 r1 r2 v11 r3 r4 hinfo hi0
      obtain ⟨e0, e1, e2, e3, e4, e5, e6⟩ := cells7 (show Var W4 K8 #[.slice cur.Ap cur.params.length cur.cp, .slice cur.Ai cur.ins.length cur.ci, .int .i64 cur.fin.kind, .int .i64 cur.fin.cond, .slice cur.Aa cur.fin.args.length cur.ca, .slice cur.At cur.fin.edges.length cur.ct, .int .i64 cur.fin.trap] 44 from HR.vb)
      have he8 := HR.vb.lt
      have hvf5 := HR.vf
      rw [← HFC.out] at hvf5
      obtain ⟨⟨m0, m1, m2, m3⟩, -, -, -, -⟩ := cells4' hvf5
      obtain ⟨hg1, -, hc⟩ := HR.q.cells
      obtain ⟨f0, k0⟩ := hc 0 (by omega)
      obtain ⟨f1, k1⟩ := hc 1 (by omega)
      obtain ⟨f2, k2⟩ := hc 2 (by omega)
      obtain ⟨f3, k3⟩ := hc 3 (by omega)
      obtain ⟨f4, k4⟩ := hc 4 (by omega)
      obtain ⟨f5, k5⟩ := hc 5 (by omega)
      obtain ⟨f6, k6⟩ := hc 6 (by omega)
      simp only [encB, List.getElem?_cons_zero, List.getElem?_cons_succ, Nat.add_zero] at f0 f1 f2 f3 f4 f5 f6 k0
      rw [HMl.out] at f1
      rw [HMl.out] at e1
      clear hc
      go_upto_region 10 with fail
      refine at_code (F := fun W => RowAt w0 w W Kp cs S3 P R V g d ps rs vals L cur cur.Ai cur.ci M FC K8 cur) (HR.set7 (by unfold encB; rw [HMl.out]) ⟨rfl, rfl⟩) ?_
      clear f0 f1 f2 f3 f4 f5 f6 k0 k1 k2 k3 k4 k5 k6 e0 e1 e2 e3 e4 e5 e6 he8 hvf5 m0 m1 m2 m3 hg1 HR
      rintro W6 HR6
      have hvf := HR6.vf
      rw [← HFC.out] at hvf
      obtain ⟨⟨p0, p1, p2, p3⟩, -, -, -, -⟩ := cells4' hvf
      obtain ⟨⟨z0, z1, z2, z3⟩, y0, y1, y2, y3⟩ := cells4' HR6.vz
      have hz := HR6.vz.lt
      go_wp2_with fail
      have gE := put4 HR6.vz (.slice P ps.length c1) (.slice R rs.length c2) (.slice V vals.length c3) (.slice (some ⟨g, 0, none⟩) (L.length + 1) d)
      refine bodyPost_ret (results_cell_2 rfl _ _ (w.heap.size + 1) _ #[.slice P ps.length c1, .slice R rs.length c2, .slice V vals.length c3, .slice (some ⟨g, 0, none⟩) (L.length + 1) d] (0, 0) _ rfl gE.1 Tryz.underlying27 rfl (by kernel_rfl)) rfl ?_
      have HF := HR6.res gE.2
      have hLb : blocks.length = L.length := by rw [← HL.out]; simp
      refine ⟨by rw [hLb]; rfl, HF.p.bel, HF.p.cell, ?_⟩
      simp
    · clear v9 r1 r2 hinfo hi0
      obtain ⟨e0, e1, e2, e3, e4, e5, e6⟩ := cells7 (show Var W4 K8 #[.slice cur.Ap cur.params.length cur.cp, .slice cur.Ai cur.ins.length cur.ci, .int .i64 cur.fin.kind, .int .i64 cur.fin.cond, .slice cur.Aa cur.fin.args.length cur.ca, .slice cur.At cur.fin.edges.length cur.ct, .int .i64 cur.fin.trap] 44 from HR.vb)
      rw [HMl.out] at e1
      have he8 := HR.vb.lt
      obtain ⟨⟨a0, a1, a2, a3, a4⟩, -, -, -, -, -⟩ := cells5' (show Var W4 K11 #[.int .i64 f.kind, .int .i64 f.cond, .slice A5 f.args.length c5, .slice B5 f.edges.length d5, .int .i64 f.trap] 42 from v11)
      have hz8 := fun i => HR.vb.froz i
      have y2 := hz8 2
      have y3 := hz8 3
      have y4 := hz8 4
      have y5 := hz8 5
      have y6 := hz8 6
      clear hz8
      have gB := put5at (show Var W4 K8 #[.slice cur.Ap cur.params.length cur.cp, .slice cur.Ai cur.ins.length cur.ci, .int .i64 cur.fin.kind, .int .i64 cur.fin.cond, .slice cur.Aa cur.fin.args.length cur.ca, .slice cur.At cur.fin.edges.length cur.ct, .int .i64 cur.fin.trap] 44 from HR.vb) (.int .i64 f.kind) (.int .i64 f.cond) (.slice A5 f.args.length c5) (.slice B5 f.edges.length d5) (.int .i64 f.trap)
      go_upto_region 9 with fail
      refine at_code (F := fun W => RowAt w0 w W Kp cs S3 P R V g d ps rs vals L cur cur.Ai cur.ci M FC K8 ⟨cur.params, cur.Ap, cur.cp, cur.ins, cur.Ai, cur.ci, f, A5, c5, B5, d5⟩ ∧ RdZ W S3 A5 f.args ∧ RdT W S3 B5 2 (EdgeAt S3) f.edges) ⟨HR.put gB.1 gB.2, RdZ.keep (keep_grown gB.2 HR.n3) gB.2.size r3, r4.keep (fun g o x hs' hx => EdgeAt.keep (keep_grown gB.2 HR.n3) gB.2.size g o x hs' hx) gB.2.size⟩ ?_
      clear e0 e1 e2 e3 e4 e5 e6 he8 a0 a1 a2 a3 a4 y2 y3 y4 y5 y6 gB r3 r4 v11 HR
      rintro W5 ⟨HR, r3, r4⟩
      have HR3 := Lib.hid (And.intro r3 r4)
      clear r3 r4
      obtain ⟨e0, e1, e2, e3, e4, e5, e6⟩ := cells7 (show Var W5 K8 #[.slice cur.Ap cur.params.length cur.cp, .slice cur.Ai cur.ins.length cur.ci, .int .i64 f.kind, .int .i64 f.cond, .slice A5 f.args.length c5, .slice B5 f.edges.length d5, .int .i64 f.trap] 44 from HR.vb)
      have he8 := HR.vb.lt
      have hvf5 := HR.vf
      rw [← HFC.out] at hvf5
      obtain ⟨⟨m0, m1, m2, m3⟩, -, -, -, -⟩ := cells4' hvf5
      obtain ⟨hg1, -, hc⟩ := HR.q.cells
      obtain ⟨f0, k0⟩ := hc 0 (by omega)
      obtain ⟨f1, k1⟩ := hc 1 (by omega)
      obtain ⟨f2, k2⟩ := hc 2 (by omega)
      obtain ⟨f3, k3⟩ := hc 3 (by omega)
      obtain ⟨f4, k4⟩ := hc 4 (by omega)
      obtain ⟨f5, k5⟩ := hc 5 (by omega)
      obtain ⟨f6, k6⟩ := hc 6 (by omega)
      simp only [encB, List.getElem?_cons_zero, List.getElem?_cons_succ, Nat.add_zero] at f0 f1 f2 f3 f4 f5 f6 k0
      rw [HMl.out] at f1
      rw [HMl.out] at e1
      clear hc
      go_upto_region 10 with fail
      refine at_code (F := fun W => RowAt w0 w W Kp cs S3 P R V g d ps rs vals L ⟨cur.params, cur.Ap, cur.cp, cur.ins, cur.Ai, cur.ci, f, A5, c5, B5, d5⟩ cur.Ai cur.ci M FC K8 ⟨cur.params, cur.Ap, cur.cp, cur.ins, cur.Ai, cur.ci, f, A5, c5, B5, d5⟩ ∧ RdZ W S3 A5 f.args ∧ RdT W S3 B5 2 (EdgeAt S3) f.edges) ⟨HR.set7 (by unfold encB; rw [HMl.out]) ⟨rfl, rfl⟩, RdZ.keep (keep_grown (grown_set7 _ _ _ _ _ _ _ _ _ _) (fun hs => (HR.q.p.sS g hs).2.2 rfl)) (grown_set7 _ _ _ _ _ _ _ _ _ _).size HR3.out.1, HR3.out.2.keep (fun g' o x hs' hx => EdgeAt.keep (keep_grown (grown_set7 _ _ _ _ _ _ _ _ _ _) (fun hs => (HR.q.p.sS g hs).2.2 rfl)) (grown_set7 _ _ _ _ _ _ _ _ _ _).size g' o x hs' hx) (grown_set7 _ _ _ _ _ _ _ _ _ _).size⟩ ?_
      clear f0 f1 f2 f3 f4 f5 f6 k0 k1 k2 k3 k4 k5 k6 e0 e1 e2 e3 e4 e5 e6 he8 hvf5 m0 m1 m2 m3 hg1 HR
      rintro W6 ⟨HR6, r3, r4⟩
      have hvf := HR6.vf
      rw [← HFC.out] at hvf
      obtain ⟨⟨p0, p1, p2, p3⟩, -, -, -, -⟩ := cells4' hvf
      obtain ⟨⟨z0, z1, z2, z3⟩, y0, y1, y2, y3⟩ := cells4' HR6.vz
      have hz := HR6.vz.lt
      go_wp2_with fail
      have gE := put4 HR6.vz (.slice P ps.length c1) (.slice R rs.length c2) (.slice V vals.length c3) (.slice (some ⟨g, 0, none⟩) (L.length + 1) d)
      refine bodyPost_ret (results_cell_2 rfl _ _ (w.heap.size + 1) _ #[.slice P ps.length c1, .slice R rs.length c2, .slice V vals.length c3, .slice (some ⟨g, 0, none⟩) (L.length + 1) d] (0, 0) _ rfl gE.1 Tryz.underlying27 rfl (by kernel_rfl)) rfl ?_
      have HF := HR6.res gE.2
      have hLb : blocks.length = L.length := by rw [← HL.out]; simp
      refine ⟨by rw [hLb]; rfl, HF.p.bel, HF.p.cell, ?_⟩
      have hk6 := keep_grown gE.2 HR6.n2
      rw [if_pos rfl]
      obtain ⟨S7, q7, b7⟩ := HF.close HM.out (RdZ.keep hk6 gE.2.size r3) (r4.keep (fun g o x hs' hx => EdgeAt.keep hk6 gE.2.size g o x hs' hx) gE.2.size)
      refine ⟨S7, _, by rw [show blocks ++ [(⟨cur.params, cur.ins, f⟩ : St.Blk)] = blocks ++ [(⟨cur.params, cur.ins, f⟩ : St.Blk)] from rfl]; exact q7, by rw [List.map_append, HL.out]; rfl, b7⟩
  · rcases fb with _ | _
    · clear v11 r3 r4
      obtain ⟨e0, e1, e2, e3, e4, e5, e6⟩ := cells7 (show Var W4 K8 #[.slice cur.Ap cur.params.length cur.cp, .slice cur.Ai cur.ins.length cur.ci, .int .i64 cur.fin.kind, .int .i64 cur.fin.cond, .slice cur.Aa cur.fin.args.length cur.ca, .slice cur.At cur.fin.edges.length cur.ct, .int .i64 cur.fin.trap] 44 from HR.vb)
      rw [HMl.out] at e1
      obtain ⟨a0, a1, a2, a3, a4, a5, a6⟩ := cells7 (show Var W4 K9 #[.int .i64 y.kind, .int .i64 y.op, .int .i64 y.a, .int .i64 y.b, .int .u64 (y.n : Int), .slice A4 y.args.length c4, .slice B4 y.outs.length d4] 48 from v9)
      go_upto_region 7 with (at_builtin; have haa := (Below.refl W4.heap.size W4).alloc (Nat.le_refl _) (.cells (insC y A4 c4 B4 d4) 48); have HRA := HR.below haa; refine app_rs2 Tryz.underlying38 hi0 hz0 hz1 hz2 hzs (by omega) encI_len encI_one _ rfl (.tmp 34) (.tmp 36) rfl (Kp + 1) _ M.length M (by rfl) HRA.q.own [((y, (A4, c4), B4, d4) : IV)] 1 1 _ rfl (by rfl) (one_ins W4 y A4 c4 B4 d4) (by omega) hbb HRA.q.p.lt ?_; intro A6 c6 w6 own6 hg6 hob6; have HR6 := HRA.app (v := ((y, (A4, c4), B4, d4) : IV)) ⟨RdZ.on r1 haa, RdZ.on r2 haa⟩ own6 hg6 hob6; have hv6 : Var w6 K8 #[.slice cur.Ap cur.params.length cur.cp, .slice cur.Ai cur.ins.length cur.ci, .int .i64 cur.fin.kind, .int .i64 cur.fin.cond, .slice cur.Aa cur.fin.args.length cur.ca, .slice cur.At cur.fin.edges.length cur.ct, .int .i64 cur.fin.trap] 44 := HR6.vb; have l6 := hv6.lt; have k6 := hv6.froz 1; obtain ⟨u0, u1, u2, u3, u4, u5, u6⟩ := cells7 hv6; clear hg6 own6 haa HRA)
      have hs6 : Var (w6.setCell ⟨K8, 1, none⟩ (.slice A6 (M.length + 1) c6)) K8 (encBa ⟨cur.params, cur.Ap, cur.cp, cur.ins ++ [y], A6, c6, cur.fin, cur.Aa, cur.ca, cur.At, cur.ct⟩) 44 := by
        have h := hv6.set 1 (.slice A6 (M.length + 1) c6)
        simp only [List.setIfInBounds_toArray, List.set_cons_zero, List.set_cons_succ] at h
        have e : (cur.ins ++ [y]).length = M.length + 1 := by rw [List.length_append, HMl.out]; rfl
        unfold encBa encB
        dsimp only
        rw [e]
        exact h
      refine at_code (F := fun W => RowAt w0 w W Kp cs S3 P R V g d ps rs vals L cur A6 c6 (M ++ [((y, (A4, c4), B4, d4) : IV)]) FC K8 ⟨cur.params, cur.Ap, cur.cp, cur.ins ++ [y], A6, c6, cur.fin, cur.Aa, cur.ca, cur.At, cur.ct⟩) (HR6.put hs6 (grown_set _ _ _ _)) ?_
      clear e0 e1 e2 e3 e4 e5 e6 a0 a1 a2 a3 a4 a5 a6 u0 u1 u2 u3 u4 u5 u6 l6 k6 hs6 hv6 HR6 HR r1 r2 v9 hob6
      rintro W5 HR
      obtain ⟨e0, e1, e2, e3, e4, e5, e6⟩ := cells7 (show Var W5 K8 #[.slice cur.Ap cur.params.length cur.cp, .slice A6 (cur.ins ++ [y]).length c6, .int .i64 cur.fin.kind, .int .i64 cur.fin.cond, .slice cur.Aa cur.fin.args.length cur.ca, .slice cur.At cur.fin.edges.length cur.ct, .int .i64 cur.fin.trap] 44 from HR.vb)
      have he8 := HR.vb.lt
      have hvf5 := HR.vf
      rw [← HFC.out] at hvf5
      obtain ⟨⟨m0, m1, m2, m3⟩, -, -, -, -⟩ := cells4' hvf5
      obtain ⟨hg1, -, hc⟩ := HR.q.cells
      obtain ⟨f0, k0⟩ := hc 0 (by omega)
      obtain ⟨f1, k1⟩ := hc 1 (by omega)
      obtain ⟨f2, k2⟩ := hc 2 (by omega)
      obtain ⟨f3, k3⟩ := hc 3 (by omega)
      obtain ⟨f4, k4⟩ := hc 4 (by omega)
      obtain ⟨f5, k5⟩ := hc 5 (by omega)
      obtain ⟨f6, k6⟩ := hc 6 (by omega)
      simp only [encB, List.getElem?_cons_zero, List.getElem?_cons_succ, Nat.add_zero] at f0 f1 f2 f3 f4 f5 f6 k0
      rw [HMl.out] at f1
      rw [show (cur.ins ++ [y]).length = M.length + 1 by rw [List.length_append, HMl.out]; rfl] at e1
      clear hc
      go_upto_region 10 with fail
      refine at_code (F := fun W => RowAt w0 w W Kp cs S3 P R V g d ps rs vals L ⟨cur.params, cur.Ap, cur.cp, cur.ins ++ [y], A6, c6, cur.fin, cur.Aa, cur.ca, cur.At, cur.ct⟩ A6 c6 (M ++ [((y, (A4, c4), B4, d4) : IV)]) FC K8 ⟨cur.params, cur.Ap, cur.cp, cur.ins ++ [y], A6, c6, cur.fin, cur.Aa, cur.ca, cur.At, cur.ct⟩) (HR.set7 (by unfold encB; rw [show (cur.ins ++ [y]).length = M.length + 1 by rw [List.length_append, HMl.out]; rfl]) ⟨rfl, rfl⟩) ?_
      clear f0 f1 f2 f3 f4 f5 f6 k0 k1 k2 k3 k4 k5 k6 e0 e1 e2 e3 e4 e5 e6 he8 hvf5 m0 m1 m2 m3 hg1 HR
      rintro W6 HR6
      have hvf := HR6.vf
      rw [← HFC.out] at hvf
      obtain ⟨⟨p0, p1, p2, p3⟩, -, -, -, -⟩ := cells4' hvf
      obtain ⟨⟨z0, z1, z2, z3⟩, y0, y1, y2, y3⟩ := cells4' HR6.vz
      have hz := HR6.vz.lt
      go_wp2_with fail
      have gE := put4 HR6.vz (.slice P ps.length c1) (.slice R rs.length c2) (.slice V vals.length c3) (.slice (some ⟨g, 0, none⟩) (L.length + 1) d)
      refine bodyPost_ret (results_cell_2 rfl _ _ (w.heap.size + 1) _ #[.slice P ps.length c1, .slice R rs.length c2, .slice V vals.length c3, .slice (some ⟨g, 0, none⟩) (L.length + 1) d] (0, 0) _ rfl gE.1 Tryz.underlying27 rfl (by kernel_rfl)) rfl ?_
      have HF := HR6.res gE.2
      have hLb : blocks.length = L.length := by rw [← HL.out]; simp
      refine ⟨by rw [hLb]; rfl, HF.p.bel, HF.p.cell, ?_⟩
      refine ⟨S3, L, _, M ++ [((y, (A4, c4), B4, d4) : IV)], HF, HL.out, rfl, ?_, rfl, HZ.out⟩
      simp [HM.out]
    · exact absurd (hnb rfl) (by simp)
end Go.Proofs.YtmhmpobjjhbklaaGreatDoor
