/-
  Layer 40, plain: the two readers of an instruction and of a terminator; each reads exactly the texts of the printable ones.
-/
import Derived.Test.YtmhmpobjjhbklaaGreatDoorSP2
set_option linter.unusedVariables false
set_option linter.unusedSimpArgs false
namespace Go.Proofs.YtmhmpobjjhbklaaGreatDoor.St
abbrev W := List UInt8
def lOp : W := [111, 112]
def lA : W := [97]
def lB : W := [98]
def lN : W := [110]
def lOf : W := [111, 102]
def lTo : W := [116, 111]
def lOn : W := [111, 110]
def lTrap : W := [116, 114, 97, 112]
def lEnd : W := [101, 110, 100]
def lBlock : W := [98, 108, 111, 99, 107]
def lVals : W := [118, 97, 108, 115]
/-- Where a word stands in a list, or -1. -/
def idxFrom (w : W) : Nat → List W → Int
  | _, [] => -1
  | i, a :: t => if a = w then (i : Int) else idxFrom w (i + 1) t
def idx (L : List W) (w : W) : Int := idxFrom w 0 L
/-! The program's reader. -/
structure Rs where
  l : List W
  ok : Bool
def takeO (w : W) (r : Rs) : Bool × Rs := if r.l.head? = some w then (true, ⟨r.l.tail, r.ok⟩) else (false, r)
def numO (r : Rs) : Int × Rs := ((pint (r.l.headD [])).1, ⟨r.l.tail, r.ok && (pint (r.l.headD [])).2⟩)
def dig0 (w : W) : Bool := match w with | [] => false | b :: _ => b == 45 || isD b
def numsGo : List W → Bool → List Int × Rs
  | [], ok => ([], ⟨[], ok⟩)
  | w :: l, ok => if dig0 w then ((pint w).1 :: (numsGo l (ok && (pint w).2)).1, (numsGo l (ok && (pint w).2)).2) else ([], ⟨w :: l, ok⟩)
def numsO (r : Rs) : List Int × Rs := numsGo r.l r.ok
def optNum (w : W) (r : Rs) : Int × Rs := if (takeO w r).1 then numO (takeO w r).2 else (0, r)
def optNums (w : W) (r : Rs) : List Int × Rs := if (takeO w r).1 then numsO (takeO w r).2 else ([], r)
def opFind (w : W) : Int × Bool := match Opc.seek w Opc.all with | some op => (op, true) | none => (0, false)
def optOp (r : Rs) : Int × Rs := if (takeO lOp r).1 then ((opFind ((takeO lOp r).2.l.headD [])).1, ⟨(takeO lOp r).2.l.tail, r.ok && (opFind ((takeO lOp r).2.l.headD [])).2⟩) else (0, r)
def optN (r : Rs) : Nat × Rs := if (takeO lN r).1 then ((puint ((takeO lN r).2.l.headD [])).1, ⟨(takeO lN r).2.l.tail, r.ok && (puint ((takeO lN r).2.l.headD [])).2⟩) else (0, r)
def insF (k : Int) (r : Rs) : Ins × Rs :=
  let o := optOp r
  let a := optNum lA o.2
  let b := optNum lB a.2
  let n := optN b.2
  let f := optNums lOf n.2
  let t := optNums lTo f.2
  (⟨k, o.1, a.1, b.1, n.1, f.1, t.1⟩, t.2)
def insP (s : W) : Ins × Bool :=
  let q := insF (idx kindW ((Lib.fieldsD s).headD [])) ⟨(Lib.fieldsD s).tail, true⟩
  (q.1, q.2.ok && (decide (0 ≤ q.1.kind) && (q.2.l == [] && insO q.1 == s)))
def edgesO : Nat → Rs → List Edge × Rs
  | 0, r => ([], r)
  | f + 1, r => if (takeO lTo r).1 then
      let q := numO (takeO lTo r).2
      let n := numsO q.2
      (⟨q.1, n.1⟩ :: (edgesO f n.2).1, (edgesO f n.2).2)
    else ([], r)
def finF (k : Int) (r : Rs) : Fin × Rs :=
  let c := optNum lOn r
  let a := optNums lOf c.2
  let e := edgesO a.2.l.length a.2
  let t := optNum lTrap e.2
  (⟨k, c.1, a.1, e.1, t.1⟩, t.2)
def finP (s : W) : Fin × Bool :=
  let t := takeO lEnd ⟨Lib.fieldsD s, true⟩
  let q := finF (idx endW (t.2.l.headD [])) ⟨t.2.l.tail, t.2.ok⟩
  (q.1, t.1 && (q.2.ok && (decide (0 ≤ q.1.kind) && (q.2.l == [] && finO q.1 == s))))

/-! Heads of the rest. -/
def Hd (S : List W) (l : List W) : Prop := ∀ w, l.head? = some w → w ∈ S
theorem Hd.nil (S : List W) : Hd S [] := fun w h => by cases h
theorem Hd.mono {S T : List W} {l : List W} (h : Hd S l) (hs : ∀ w ∈ S, w ∈ T) : Hd T l := fun w hw => hs w (h w hw)
theorem Hd.opW {S : List W} {l : List W} (h : Hd S l) (op : Int) : Hd (lOp :: S) (opW op ++ l) := by
  unfold St.opW
  split
  · exact h.mono fun w hw => by simp [hw]
  · intro w hw; simp at hw; subst hw; simp [lOp]
theorem Hd.numW {S : List W} {l : List W} (h : Hd S l) (w : W) (n : Int) : Hd (w :: S) (numW w n ++ l) := by
  unfold St.numW
  split
  · exact h.mono fun w hw => by simp [hw]
  · intro v hv; simp at hv; subst hv; simp
theorem Hd.nW {S : List W} {l : List W} (h : Hd S l) (n : Nat) : Hd (lN :: S) (nW n ++ l) := by
  unfold St.nW
  split
  · exact h.mono fun w hw => by simp [hw]
  · intro v hv; simp at hv; subst hv; simp [lN]
theorem Hd.listW {S : List W} {l : List W} (h : Hd S l) (w : W) (z : List Int) : Hd (w :: S) (listW w z ++ l) := by
  unfold St.listW
  split
  · exact h.mono fun w hw => by simp [hw]
  · intro v hv; simp at hv; subst hv; simp
theorem Hd.edges {S : List W} {l : List W} (h : Hd S l) (z : List Edge) : Hd (lTo :: S) (z.flatMap edW ++ l) := by
  rcases z with _ | ⟨e, z⟩
  · exact h.mono fun w hw => by simp [hw]
  · intro v hv; simp [edW] at hv; subst hv; simp [lTo]
/-! The program's reader finds what was written. -/
theorem takeO_hit (w : W) (l : List W) (ok : Bool) : takeO w ⟨w :: l, ok⟩ = (true, ⟨l, ok⟩) := by simp [takeO]
theorem takeO_miss {S : List W} {w : W} {l : List W} (ok : Bool) (h : Hd S l) (hw : w ∉ S) : takeO w ⟨l, ok⟩ = (false, ⟨l, ok⟩) := by
  unfold takeO
  rw [if_neg]
  intro e
  exact hw (h w e)
theorem optNum_back {S : List W} {w : W} {l : List W} (ok : Bool) (h : Hd S l) (hw : w ∉ S) {n : Int} (hn : InR n) : optNum w ⟨numW w n ++ l, ok⟩ = (n, ⟨l, ok⟩) := by
  unfold optNum numW
  split
  · rename_i h0
    rw [List.nil_append, takeO_miss ok h hw]; simp [h0]
  · rw [List.cons_append, takeO_hit]
    simp [numO, pint_itoa hn]
theorem optOp_back {S : List W} {l : List W} (ok : Bool) (h : Hd S l) (hw : lOp ∉ S) {op : Int} (hn : op = 0 ∨ opFind (Opc.name op) = (op, true)) : optOp ⟨opW op ++ l, ok⟩ = (op, ⟨l, ok⟩) := by
  unfold optOp opW
  split
  · rename_i h0
    rw [List.nil_append, takeO_miss ok h hw]; simp [h0]
  · rename_i h0
    rw [List.cons_append, show ([111, 112] : W) = lOp from rfl, takeO_hit]
    simp [hn.resolve_left h0]
theorem optN_back {S : List W} {l : List W} (ok : Bool) (h : Hd S l) (hw : lN ∉ S) {n : Nat} (hn : n < 18446744073709551616) : optN ⟨nW n ++ l, ok⟩ = (n, ⟨l, ok⟩) := by
  unfold optN nW
  split
  · rename_i h0
    rw [List.nil_append, takeO_miss ok h hw]; simp [h0]
  · rename_i h0
    rw [List.cons_append, show ([110] : W) = lN from rfl, takeO_hit]
    simp [puint_dec hn]
theorem dig0_itoa (z : Int) : dig0 (Lib.itoa z) = true := by
  have hi : Lib.itoa z = if z < 0 then 45 :: Lib.decDigits z.natAbs else Lib.decDigits z.toNat := rfl
  rw [hi]
  split
  · rfl
  · obtain ⟨c, r, hc⟩ : ∃ c r, Lib.decDigits z.toNat = c :: r := List.exists_cons_of_ne_nil (dec_ne _)
    rw [hc]
    have := dec_isD z.toNat c (by rw [hc]; simp)
    simp [dig0, this]
theorem numsGo_back {S : List W} {l : List W} (h : Hd S l) (hS : ∀ w ∈ S, dig0 w = false) (z : List Int) (hz : ∀ n ∈ z, InR n) (ok : Bool) : numsGo (z.map Lib.itoa ++ l) ok = (z, ⟨l, ok⟩) := by
  induction z with
  | nil =>
    rcases l with _ | ⟨w, l⟩
    · rfl
    · have := hS w (h w rfl)
      simp [numsGo, this]
  | cons n z ih =>
    have := ih fun n hn => hz n (by simp [hn])
    simp [numsGo, dig0_itoa, pint_itoa (hz n (by simp)), this]
theorem optNums_back {S : List W} {w : W} {l : List W} (ok : Bool) (h : Hd S l) (hw : w ∉ S) (hS : ∀ w ∈ S, dig0 w = false) {z : List Int} (hz : ∀ n ∈ z, InR n) : optNums w ⟨listW w z ++ l, ok⟩ = (z, ⟨l, ok⟩) := by
  unfold optNums listW
  split
  · rename_i h0
    rw [List.nil_append, takeO_miss ok h hw]; simp [h0]
  · rw [List.cons_append, takeO_hit]
    simp [numsO, numsGo_back h hS z hz]
theorem edgesO_back {S : List W} {l : List W} (h : Hd S l) (hw : lTo ∉ S) (hS : ∀ w ∈ lTo :: S, dig0 w = false) (z : List Edge) (hz : ∀ e ∈ z, e.Ok) (ok : Bool) (f : Nat) (hf : z.length ≤ f) : edgesO f ⟨z.flatMap edW ++ l, ok⟩ = (z, ⟨l, ok⟩) := by
  induction z generalizing f with
  | nil =>
    rw [List.flatMap_nil, List.nil_append]
    rcases f with _ | f
    · rfl
    · rw [edgesO, takeO_miss ok h hw]; simp
  | cons e z ih =>
    obtain ⟨f, rfl⟩ : ∃ g, f = g + 1 := ⟨f - 1, by simp at hf; omega⟩
    have he := hz e (by simp)
    have ih := ih (fun e he => hz e (by simp [he])) f (by simpa using hf)
    rw [List.flatMap_cons, edgesO, edW]
    rw [show (([116, 111] :: Lib.itoa e.tgt :: e.args.map Lib.itoa : List W) ++ z.flatMap edW) ++ l = lTo :: (Lib.itoa e.tgt :: (e.args.map Lib.itoa ++ (z.flatMap edW ++ l))) from by simp [lTo]]
    rw [takeO_hit]
    have h1 : numO ⟨Lib.itoa e.tgt :: (e.args.map Lib.itoa ++ (z.flatMap edW ++ l)), ok⟩ = (e.tgt, ⟨e.args.map Lib.itoa ++ (z.flatMap edW ++ l), ok⟩) := by simp [numO, pint_itoa he.1]
    have h2 := numsGo_back (h.edges z) hS e.args he.2.2 ok
    simp [h1, numsO, h2, ih]
theorem insF_back (x : Ins) (hx : x.Ok) (ho : x.op = 0 ∨ opFind (Opc.name x.op) = (x.op, true)) (k : Int) (ok : Bool) : insF k ⟨insT x, ok⟩ = (⟨k, x.op, x.a, x.b, x.n, x.args, x.outs⟩, ⟨[], ok⟩) := by
  have H6 : Hd [lTo] (listW lTo x.outs ++ []) := (Hd.nil []).listW _ _
  have H5 := H6.listW lOf x.args
  have H4 := H5.nW x.n
  have H3 := H4.numW lB x.b
  have H2 := H3.numW lA x.a
  have e : insT x = opW x.op ++ (numW lA x.a ++ (numW lB x.b ++ (nW x.n ++ (listW lOf x.args ++ (listW lTo x.outs ++ []))))) := by unfold insT lA lB lOf lTo; simp
  rw [e]
  unfold insF
  rw [optOp_back ok H2 (by decide) ho]
  dsimp only
  rw [optNum_back ok H3 (by decide) hx.a]
  dsimp only
  rw [optNum_back ok H4 (by decide) hx.b]
  dsimp only
  rw [optN_back ok H5 (by decide) hx.n]
  dsimp only
  rw [optNums_back ok H6 (by decide) (by decide) hx.args.2]
  dsimp only
  rw [optNums_back ok (Hd.nil []) (by simp) (by simp) hx.outs.2]
theorem finF_back (x : Fin) (hx : x.Ok) (k : Int) (ok : Bool) : finF k ⟨finT x, ok⟩ = (⟨k, x.cond, x.args, x.edges, x.trap⟩, ⟨[], ok⟩) := by
  have H4 : Hd [lTrap] (numW lTrap x.trap ++ []) := (Hd.nil []).numW _ _
  have H3 := H4.edges x.edges
  have H2 := H3.listW lOf x.args
  have e : finT x = numW lOn x.cond ++ (listW lOf x.args ++ (x.edges.flatMap edW ++ (numW lTrap x.trap ++ []))) := by unfold finT lOn lOf lTrap; simp
  have hfl : x.edges.length ≤ (x.edges.flatMap edW ++ (numW lTrap x.trap ++ [])).length := by
    rw [List.length_append]
    have : ∀ l : List Edge, l.length ≤ (l.flatMap edW).length := by
      intro l
      induction l with
      | nil => simp
      | cons a l ih =>
        have : 1 ≤ (edW a).length := by simp [edW]
        rw [List.flatMap_cons, List.length_append, List.length_cons]; omega
    have := this x.edges
    omega
  rw [e]
  unfold finF
  rw [optNum_back ok H2 (by decide) hx.cond]
  dsimp only
  rw [optNums_back ok H3 (by decide) (by decide) hx.args.2]
  dsimp only
  rw [edgesO_back H4 (by decide) (by decide) x.edges hx.edges.2 ok _ hfl]
  dsimp only
  rw [optNum_back ok (Hd.nil []) (by simp) hx.trap]
theorem w1_numW {w : W} (h : w1 w = true) (n : Int) : ∀ x ∈ numW w n, w1 x = true := by
  unfold numW
  split
  · simp
  · intro x hx; simp at hx; rcases hx with rfl | rfl
    · exact h
    · exact w1_itoa _
theorem w1_map (l : List Int) : ∀ x ∈ l.map Lib.itoa, w1 x = true := by
  intro x hx
  obtain ⟨z, hz, rfl⟩ := List.mem_map.1 hx
  exact w1_itoa _
theorem w1_listW {w : W} (h : w1 w = true) (l : List Int) : ∀ x ∈ listW w l, w1 x = true := by
  unfold listW
  split
  · simp
  · intro x hx
    rcases List.mem_cons.1 hx with rfl | hx
    · exact h
    · exact w1_map l x hx
theorem w1_nW (n : Nat) : ∀ x ∈ nW n, w1 x = true := by
  unfold nW
  split
  · simp
  · intro x hx; simp at hx; rcases hx with rfl | rfl
    · decide
    · exact w1_dec _
theorem w1_name {op : Int} (h : Opc.known op = true) : w1 (Opc.name op) = true := by
  unfold Opc.known at h
  unfold Opc.name
  rcases hl : Opc.look op Opc.all with _ | s
  · rw [hl] at h; cases h
  · exact w1_ops _ (look_mem hl)
theorem w1_opW {op : Int} (h : Opc.known op = true) : ∀ x ∈ opW op, w1 x = true := by
  unfold opW
  split
  · simp
  · intro x hx; simp at hx; rcases hx with rfl | rfl
    · decide
    · exact w1_name h
theorem word_get {L : List W} {k : Int} (h : (word L k).2 = true) : ∃ i : Nat, ∃ hi : i < L.length, k = i ∧ (word L k).1 = L[i] := by
  unfold word at h ⊢
  split
  · rename_i h1
    have : k.toNat < L.length := by omega
    exact ⟨k.toNat, this, by omega, by simp [this]⟩
  · rename_i h1; rw [if_neg h1] at h; cases h
theorem w1_insW {x : Ins} (h : insMay x = true) : ∀ w ∈ insW x, w1 w = true := by
  unfold insMay at h
  simp only [Bool.and_eq_true] at h
  obtain ⟨h1, h2, h3⟩ := h
  intro w hw
  unfold insW insT at hw
  rcases List.mem_cons.1 hw with rfl | hw
  · obtain ⟨i, hi, -, e⟩ := word_get h1
    unfold kindw
    rw [e]
    exact w1_kinds _ (List.getElem_mem _)
  simp only [List.mem_append] at hw
  rcases hw with hw | hw | hw | hw | hw | hw
  · exact w1_opW h2 w hw
  · exact w1_numW (by decide) _ w hw
  · exact w1_numW (by decide) _ w hw
  · exact w1_nW _ w hw
  · exact w1_listW (by decide) _ w hw
  · exact w1_listW (by decide) _ w hw
theorem w1_edges (l : List Edge) : ∀ w ∈ l.flatMap edW, w1 w = true := by
  intro w hw
  obtain ⟨e, he, hw⟩ := List.mem_flatMap.1 hw
  unfold edW at hw
  rcases List.mem_cons.1 hw with rfl | hw
  · decide
  rcases List.mem_cons.1 hw with rfl | hw
  · exact w1_itoa _
  · exact w1_map _ w hw
theorem w1_finW {x : Fin} (h : (word endW x.kind).2 = true) : ∀ w ∈ finW x, w1 w = true := by
  intro w hw
  unfold finW finT at hw
  rcases List.mem_cons.1 hw with rfl | hw
  · decide
  rcases List.mem_cons.1 hw with rfl | hw
  · obtain ⟨i, hi, -, e⟩ := word_get h
    rw [e]
    exact w1_ends _ (List.getElem_mem _)
  simp only [List.mem_append] at hw
  rcases hw with hw | hw | hw | hw
  · exact w1_numW (by decide) _ w hw
  · exact w1_listW (by decide) _ w hw
  · exact w1_edges _ w hw
  · exact w1_numW (by decide) _ w hw
set_option maxRecDepth 100000 in
theorem idx_kinds : ∀ i, (h : i < kindW.length) → idx kindW kindW[i] = (i : Int) := by decide +kernel
set_option maxRecDepth 100000 in
theorem idx_ends : ∀ i, (h : i < endW.length) → idx endW endW[i] = (i : Int) := by decide +kernel
theorem idxFrom_word (w : W) (L : List W) (i : Nat) (h : 0 ≤ idxFrom w i L) : ∃ j : Nat, idxFrom w i L = ((i + j : Nat) : Int) ∧ ∃ hj : j < L.length, L[j] = w := by
  induction L generalizing i with
  | nil => simp [idxFrom] at h
  | cons a L ih =>
    unfold idxFrom at h ⊢
    split
    · rename_i e; exact ⟨0, by simp, by simp, by simpa using e⟩
    · rename_i e
      rw [if_neg e] at h
      obtain ⟨j, h1, hj, h2⟩ := ih (i + 1) h
      exact ⟨j + 1, by rw [h1]; congr 1; omega, by simp; omega, by simpa using h2⟩
theorem idx_word {L : List W} {w : W} (h : 0 ≤ idx L w) : (word L (idx L w)).2 = true ∧ (word L (idx L w)).1 = w := by
  obtain ⟨j, h1, hj, h2⟩ := idxFrom_word w L 0 h
  have e : idx L w = (j : Int) := by unfold idx; rw [h1]; simp
  rw [e]
  unfold word
  rw [if_pos (by omega)]
  exact ⟨rfl, by simp [hj, h2]⟩
set_option maxRecDepth 100000 in
theorem op_rows : ∀ x ∈ Opc.all, (Opc.look x.1 Opc.all = some x.2) ∧ (x.1 = 28 ∨ Opc.seek x.2 Opc.all = some x.1) := by decide +kernel
set_option maxRecDepth 100000 in
theorem op_27 : Opc.seek (Opc.name 28) Opc.all = some 27 := by decide +kernel
theorem opFind_name {op : Int} (h : Opc.known op = true) (h28 : op ≠ 28) : opFind (Opc.name op) = (op, true) := by
  unfold Opc.known at h
  unfold Opc.name opFind
  rcases hl : Opc.look op Opc.all with _ | s
  · rw [hl] at h; cases h
  · have := (op_rows _ (look_mem hl)).2.resolve_left h28
    simp only [Option.getD_some]
    rw [this]
theorem seek_mem {w : W} {op : Int} {l : List (Int × List UInt8)} (h : Opc.seek w l = some op) : (op, w) ∈ l := by
  induction l with
  | nil => cases h
  | cons r l ih =>
    rw [Opc.seek] at h
    split at h
    · rename_i hr
      cases h; subst hr; simp
    · exact List.mem_cons_of_mem _ (ih h)
theorem opFind_may {w : W} (h : (opFind w).2 = true) : Opc.known (opFind w).1 = true ∧ (opFind w).1 ≠ 28 := by
  unfold opFind at h ⊢
  rcases hs : Opc.seek w Opc.all with _ | op
  · rw [hs] at h; cases h
  · have hm := seek_mem hs
    have hr := op_rows _ hm
    simp only
    refine ⟨by unfold Opc.known; rw [hr.1]; rfl, ?_⟩
    intro e
    subst e
    have h1 : Opc.name 28 = w := by unfold Opc.name; rw [hr.1]; rfl
    have := op_27
    rw [h1, hs] at this
    cases this
theorem known0 : Opc.known 0 = true ∧ (0 : Int) ≠ 28 := by constructor <;> decide +kernel
/-! Ours: the contract in words. -/
theorem insP_back {x : Ins} (hx : x.Ok) (h : insMay x = true) : insP (insO x) = (x, true) := by
  have hw := w1_insW h
  have h' := h
  unfold insMay at h
  simp only [Bool.and_eq_true] at h
  obtain ⟨h1, h2, h3⟩ := h
  unfold insP
  obtain ⟨i, hi, hk, e⟩ := word_get h1
  have hf : Lib.fieldsD (insO x) = insW x := by rw [insO_words x (kindw_ne h')]; exact fields_two hw
  have hix : idx kindW (kindw x.kind) = x.kind := by unfold kindw; rw [e, idx_kinds i hi, hk]
  rw [hf]
  simp only [insW, List.headD_cons, List.tail_cons, hix]
  rw [insF_back x hx (by
    by_cases h0 : x.op = 0
    · exact .inl h0
    · exact .inr (opFind_name h2 (by simpa using h3)))]
  have : (0 : Int) ≤ x.kind := by omega
  simp [this]
theorem takeO_ok (w : W) (r : Rs) : (takeO w r).2.ok = r.ok := by unfold takeO; split <;> rfl
theorem and_r {a b : Bool} (h : (a && b) = true) : a = true := by simp at h; exact h.1
theorem numsGo_ok (l : List W) (ok : Bool) (h : (numsGo l ok).2.ok = true) : ok = true := by
  induction l generalizing ok with
  | nil => exact h
  | cons w l ih =>
    unfold numsGo at h
    split at h
    · exact and_r (ih _ h)
    · exact h
theorem optNum_ok {w : W} {r : Rs} (h : (optNum w r).2.ok = true) : r.ok = true := by
  unfold optNum at h
  split at h
  · unfold numO at h
    have := and_r h
    rwa [takeO_ok] at this
  · exact h
theorem optNums_ok {w : W} {r : Rs} (h : (optNums w r).2.ok = true) : r.ok = true := by
  unfold optNums at h
  split at h
  · have := numsGo_ok _ _ h
    rwa [takeO_ok] at this
  · exact h
theorem optN_ok {r : Rs} (h : (optN r).2.ok = true) : r.ok = true := by
  unfold optN at h
  split at h
  · exact and_r h
  · exact h
theorem optOp_may {r : Rs} (h : (optOp r).2.ok = true) : Opc.known (optOp r).1 = true ∧ (optOp r).1 ≠ 28 := by
  unfold optOp at h ⊢
  split
  · rename_i h1
    rw [if_pos h1] at h
    simp only [Bool.and_eq_true] at h
    exact opFind_may h.2
  · exact known0
theorem insP_some {s : W} (h : (insP s).2 = true) : insMay (insP s).1 = true ∧ insO (insP s).1 = s := by
  unfold insP at h ⊢
  simp only [Bool.and_eq_true, decide_eq_true_eq, beq_iff_eq] at h
  obtain ⟨h1, h2, h3, h4⟩ := h
  refine ⟨?_, h4⟩
  unfold insF at h1 h2 ⊢
  simp only at h1 h2 ⊢
  unfold insMay
  have hm := optOp_may (optNum_ok (optNum_ok (optN_ok (optNums_ok (optNums_ok h1)))))
  simp only [Bool.and_eq_true]
  exact ⟨(idx_word h2).1, hm.1, by simpa using hm.2⟩
theorem finP_back {x : Fin} (hx : x.Ok) (h : (word endW x.kind).2 = true) : finP (finO x) = (x, true) := by
  have hw := w1_finW h
  unfold finP
  obtain ⟨i, hi, hk, e⟩ := word_get h
  have hf : Lib.fieldsD (finO x) = finW x := by rw [finO_words x (word_ne endW_ne h)]; exact fields_two hw
  have hix : idx endW (word endW x.kind).1 = x.kind := by rw [e, idx_ends i hi, hk]
  have ht : takeO lEnd ⟨finW x, true⟩ = (true, ⟨(word endW x.kind).1 :: finT x, true⟩) := takeO_hit lEnd _ _
  rw [hf]
  simp only [ht, List.headD_cons, List.tail_cons, hix, finF_back x hx]
  have : (0 : Int) ≤ x.kind := by omega
  simp [this]
theorem finP_some {s : W} (h : (finP s).2 = true) : (word endW (finP s).1.kind).2 = true ∧ finO (finP s).1 = s := by
  unfold finP at h ⊢
  simp only [Bool.and_eq_true, decide_eq_true_eq, beq_iff_eq] at h
  obtain ⟨h0, h1, h2, h3, h4⟩ := h
  refine ⟨?_, h4⟩
  unfold finF at h2 ⊢
  simp only at h2 ⊢
  exact (idx_word h2).1
end Go.Proofs.YtmhmpobjjhbklaaGreatDoor.St
