/-
  Layer 40, plain: each line is words between blanks; the program's text is the reference's.
-/
import Derived.Test.YtmhmpobjjhbklaaGreatDoorSR3
set_option linter.unusedVariables false
set_option linter.unusedSimpArgs false
namespace Go.Proofs.YtmhmpobjjhbklaaGreatDoor.St
theorem joinTail_sp (l : List (List UInt8)) : Lib.joinTail [32] l = sp l := by
  induction l with
  | nil => rfl
  | cons a l ih => simp only [Lib.joinTail, List.map_cons, List.flatten_cons, sp_cons] at ih ⊢; rw [ih]; rfl
theorem join_sp (a : List UInt8) (l : List (List UInt8)) : Lib.join (a :: l) [32] = a ++ sp l := by rw [Lib.join_cons, joinTail_sp]
/-- A text p is the words W between blanks. -/
def Part (p : List UInt8) (W : List (List UInt8)) : Prop := (p = [] ∧ W = []) ∨ (p ≠ [] ∧ 32 :: p = sp W)
theorem sp_parts (l : List (List UInt8 × List (List UInt8))) (h : ∀ q ∈ l, Part q.1 q.2) : sp ((l.map Prod.fst).filter ne) = sp ((l.map Prod.snd).flatten) := by
  induction l with
  | nil => rfl
  | cons q l ih =>
    have ih := ih fun q hq => h q (by simp [hq])
    rw [List.map_cons, List.map_cons, List.flatten_cons, sp_app, List.filter_cons]
    rcases h q (by simp) with ⟨h1, h2⟩ | ⟨h1, h2⟩
    · rw [h1, h2, if_neg (by simp [ne]), ih]; rfl
    · rw [if_pos (by simpa [ne] using h1), sp_cons, ih, ← h2]
theorem sp_ne {W : List (List UInt8)} (h : sp W = []) : W = [] := by
  rcases W with _ | ⟨a, W⟩
  · rfl
  · rw [sp_cons] at h; cases h
theorem part_join (l : List (List UInt8 × List (List UInt8))) (h : ∀ q ∈ l, Part q.1 q.2) : Part (join (l.map Prod.fst)) ((l.map Prod.snd).flatten) := by
  have hs := sp_parts l h
  unfold join
  rcases hf : (l.map Prod.fst).filter ne with _ | ⟨a, r⟩
  · rw [hf] at hs
    exact .inl ⟨rfl, sp_ne hs.symm⟩
  · rw [hf] at hs
    have ha : a ≠ [] := by
      have : a ∈ (l.map Prod.fst).filter ne := by rw [hf]; simp
      simpa [ne] using (List.mem_filter.1 this).2
    refine .inr ⟨by rw [join_sp]; simp [ha], ?_⟩
    rw [← hs, join_sp, sp_cons]; rfl
theorem part_one {s : List UInt8} (h : s ≠ []) : Part s [s] := .inr ⟨h, by simp [sp]⟩
theorem part_join2 {p q : List UInt8} {V W : List (List UInt8)} (hp : Part p V) (hq : Part q W) : Part (join [p, q]) (V ++ W) := by
  have := part_join [(p, V), (q, W)] (by intro x hx; simp at hx; rcases hx with rfl | rfl <;> assumption)
  simpa using this

def opW (op : Int) : List (List UInt8) := if op = 0 then [] else [[111, 112], Opc.name op]
def numW (label : List UInt8) (n : Int) : List (List UInt8) := if n = 0 then [] else [label, Lib.itoa n]
def nW (n : Nat) : List (List UInt8) := if n = 0 then [] else [[110], Lib.decDigits n]
def listW (label : List UInt8) (l : List Int) : List (List UInt8) := if l = [] then [] else label :: l.map Lib.itoa
/-- The words behind the kind. -/
def insT (x : Ins) : List (List UInt8) := opW x.op ++ (numW [97] x.a ++ (numW [98] x.b ++ (nW x.n ++ (listW [111, 102] x.args ++ listW [116, 111] x.outs))))
def insW (x : Ins) : List (List UInt8) := kindw x.kind :: insT x
def edW (e : Edge) : List (List UInt8) := [116, 111] :: Lib.itoa e.tgt :: e.args.map Lib.itoa
def finT (x : Fin) : List (List UInt8) := numW [111, 110] x.cond ++ (listW [111, 102] x.args ++ (x.edges.flatMap edW ++ numW [116, 114, 97, 112] x.trap))
def finW (x : Fin) : List (List UInt8) := [101, 110, 100] :: (word endW x.kind).1 :: finT x

theorem part_op (op : Int) : Part (opT op) (opW op) := by
  unfold opT opW
  split
  · exact .inl ⟨rfl, rfl⟩
  · exact .inr ⟨by simp, by simp [sp]⟩
theorem part_num (label : List UInt8) (hl : label ≠ []) (n : Int) : Part (number label n) (numW label n) := by
  unfold number numW
  split
  · exact .inl ⟨rfl, rfl⟩
  · exact .inr ⟨by simp, by simp [sp]⟩
theorem part_n (n : Nat) : Part (nT n) (nW n) := by
  unfold nT nW
  split
  · exact .inl ⟨rfl, rfl⟩
  · exact .inr ⟨by simp, by simp [sp]⟩
theorem part_row (l : List Int) : Part (row l) (l.map Lib.itoa) := by
  unfold row
  rcases l with _ | ⟨z, l⟩
  · exact .inl ⟨rfl, rfl⟩
  · refine .inr ⟨?_, ?_⟩
    · rw [List.map_cons, join_sp]; simp [itoa_ne]
    · rw [List.map_cons, join_sp, sp_cons]; rfl
theorem part_list (label : List UInt8) (hl : label ≠ []) (l : List Int) : Part (list label l) (listW label l) := by
  unfold list listW
  split
  · exact .inl ⟨rfl, rfl⟩
  · exact part_join2 (part_one hl) (part_row l)
theorem Part.sp {p : List UInt8} {W : List (List UInt8)} (h : Part p W) (hW : W ≠ []) : 32 :: p = St.sp W := by
  rcases h with ⟨h1, h2⟩ | ⟨h1, h2⟩
  · exact absurd h2 hW
  · exact h2

theorem insO_words (x : Ins) (hk : kindw x.kind ≠ []) : insO x = 32 :: sp (insW x) := by
  have := part_join [(kindw x.kind, [kindw x.kind]), (opT x.op, opW x.op), (number [97] x.a, numW [97] x.a), (number [98] x.b, numW [98] x.b), (nT x.n, nW x.n), (list [111, 102] x.args, listW [111, 102] x.args), (list [116, 111] x.outs, listW [116, 111] x.outs)] (by
    intro q hq
    simp at hq
    rcases hq with rfl | rfl | rfl | rfl | rfl | rfl | rfl
    · exact part_one hk
    · exact part_op _
    · exact part_num _ (by simp) _
    · exact part_num _ (by simp) _
    · exact part_n _
    · exact part_list _ (by simp) _
    · exact part_list _ (by simp) _)
  have := this.sp (by simp)
  unfold insO
  rw [show ∀ s : List UInt8, [32, 32] ++ s = 32 :: (32 :: s) from fun _ => rfl]
  simp only [List.map_cons, List.map_nil] at this
  rw [this]
  simp [insW, insT]
theorem opR_sp (op : Int) : opR op = sp (opW op) := by unfold opR opW; split <;> simp [sp]
theorem rfield_sp (label : List UInt8) (n : Int) : rfield label n = sp (numW label n) := by unfold rfield numW; split <;> simp [sp]
theorem nR_sp (n : Nat) : nR n = sp (nW n) := by unfold nR nW; split <;> simp [sp]
theorem rlist_sp (label : List UInt8) (l : List Int) : rlist label l = sp (listW label l) := by
  unfold rlist listW
  split
  · rfl
  · rw [sp_cons]
theorem insR_words (x : Ins) : insR x = 32 :: sp (insW x) ++ [10] := by
  unfold insR insW insT
  rw [opR_sp, rfield_sp, rfield_sp, nR_sp, rlist_sp, rlist_sp, sp_cons]
  simp only [sp_app, List.append_assoc, List.cons_append, List.nil_append]
theorem ins_eq (x : Ins) (hk : kindw x.kind ≠ []) : insR x = insO x ++ [10] := by rw [insR_words, insO_words x hk]

theorem part_finGo (l : List Edge) (s : List UInt8) (W : List (List UInt8)) (h : Part s W) : Part (finGo s l) (W ++ l.flatMap edW) := by
  induction l generalizing s W with
  | nil => simpa [finGo] using h
  | cons e l ih =>
    have := part_join [(s, W), ([116, 111], [[116, 111]]), (Lib.itoa e.tgt, [Lib.itoa e.tgt]), (row e.args, e.args.map Lib.itoa)] (by
      intro q hq
      simp at hq
      rcases hq with rfl | rfl | rfl | rfl
      · exact h
      · exact part_one (by simp)
      · exact part_one (itoa_ne _)
      · exact part_row _)
    have := ih _ _ this
    rw [finGo]
    simpa [edW] using this
theorem finO_words (x : Fin) (hk : (word endW x.kind).1 ≠ []) : finO x = 32 :: sp (finW x) := by
  have h0 := part_join [([101, 110, 100], [[101, 110, 100]]), ((word endW x.kind).1, [(word endW x.kind).1]), (number [111, 110] x.cond, numW [111, 110] x.cond), (list [111, 102] x.args, listW [111, 102] x.args)] (by
    intro q hq
    simp at hq
    rcases hq with rfl | rfl | rfl | rfl
    · exact part_one (by simp)
    · exact part_one hk
    · exact part_num _ (by simp) _
    · exact part_list _ (by simp) _)
  have h1 := part_join2 (part_finGo x.edges _ _ h0) (part_num [116, 114, 97, 112] (by simp) x.trap)
  have := h1.sp (by simp)
  unfold finO
  rw [show ∀ s : List UInt8, [32, 32] ++ s = 32 :: (32 :: s) from fun _ => rfl]
  simp only [List.map_cons, List.map_nil] at this
  rw [show fin0 x = join [[101, 110, 100], (word endW x.kind).1, number [111, 110] x.cond, list [111, 102] x.args] from rfl, this]
  simp [finW, finT]
theorem edR_sp (l : List Edge) : l.flatMap edR = sp (l.flatMap edW) := by
  induction l with
  | nil => rfl
  | cons e l ih => rw [List.flatMap_cons, List.flatMap_cons, sp_app, ih]; simp [edR, edW, sp]
theorem finR_words (x : Fin) : finR x = 32 :: sp (finW x) ++ [10] := by
  unfold finR finW finT
  rw [rfield_sp, rfield_sp, rlist_sp, edR_sp, sp_cons, sp_cons]
  simp only [sp_app, List.append_assoc, List.cons_append, List.nil_append]
theorem fin_eq (x : Fin) (hk : (word endW x.kind).1 ≠ []) : finR x = finO x ++ [10] := by rw [finR_words, finO_words x hk]

theorem blkO_words (b : Blk) : blkO b = [98, 108, 111, 99, 107] ++ sp (b.params.map Lib.itoa) := by
  have := (part_join2 (part_one (s := [98, 108, 111, 99, 107]) (by simp)) (part_row b.params)).sp (by simp)
  unfold blkO
  rw [List.cons_append, List.nil_append, sp_cons] at this
  injection this
theorem valsO_words (l : List Int) : valsO l = [118, 97, 108, 115] ++ sp (l.map Ty.name) := by unfold valsO; rw [join_sp]
def blkR (b : Blk) : List UInt8 := [98, 108, 111, 99, 107] ++ sp (b.params.map Lib.itoa) ++ [10] ++ b.ins.flatMap insR ++ finR b.fin
def bodyR (x : Ssa) : List UInt8 := [102, 117, 110, 99, 32] ++ Ty.text x.ps x.rs ++ [10, 118, 97, 108, 115] ++ sp (x.vals.map Ty.name) ++ [10] ++ x.blocks.flatMap blkR
def printR (x : Ssa) : List UInt8 := if may x then bodyR x else []
theorem join_lf (a : List UInt8) (l : List (List UInt8)) : Lib.join (a :: l) [10] ++ [10] = (a :: l).flatMap (· ++ [10]) := by
  induction l generalizing a with
  | nil => simp [Lib.join, List.intercalate]
  | cons b l ih =>
    rw [List.flatMap_cons, ← ih b, Lib.join_cons, Lib.join_cons]
    simp [Lib.joinTail]
theorem word_ne {L : List (List UInt8)} (hL : ∀ s ∈ L, s ≠ []) {k : Int} (h : (word L k).2 = true) : (word L k).1 ≠ [] := by
  unfold word at h ⊢
  split
  · rename_i h1
    have : k.toNat < L.length := by omega
    simp [this]
    exact hL _ (List.getElem_mem _)
  · rename_i h1; rw [if_neg h1] at h; cases h
set_option maxRecDepth 100000 in
theorem kindW_ne : ∀ s ∈ kindW, s ≠ [] := by decide +kernel
set_option maxRecDepth 100000 in
theorem endW_ne : ∀ s ∈ endW, s ≠ [] := by decide +kernel
theorem kindw_ne {x : Ins} (h : insMay x = true) : kindw x.kind ≠ [] := by
  unfold insMay at h
  simp only [Bool.and_eq_true] at h
  exact word_ne kindW_ne h.1
theorem blk_eq (b : Blk) (h : blkMay b = true) : (blkLinesO b).flatMap (· ++ [10]) = blkR b := by
  unfold blkMay at h
  rw [Bool.and_eq_true] at h
  unfold blkLinesO blkR
  rw [List.cons_append, List.flatMap_cons, List.flatMap_append, blkO_words, List.flatMap_map, fin_eq _ (word_ne endW_ne h.2)]
  have : b.ins.flatMap (fun a => insO a ++ [10]) = b.ins.flatMap insR := by
    have h1 := h.1
    generalize b.ins = l at h1
    induction l with
    | nil => rfl
    | cons x l ih =>
      rw [List.all_cons, Bool.and_eq_true] at h1
      rw [List.flatMap_cons, List.flatMap_cons, ih h1.2, ins_eq _ (kindw_ne h1.1)]
  rw [this]
  simp
theorem print_eq (x : Ssa) : printO x = printR x := by
  unfold printO printR
  split
  · rename_i h
    unfold may at h
    simp only [Bool.and_eq_true] at h
    unfold linesO bodyR
    rw [List.cons_append, join_lf, List.flatMap_cons, List.cons_append, List.flatMap_cons, List.nil_append, valsO_words]
    have : (x.blocks.flatMap blkLinesO).flatMap (fun s => s ++ [10]) = x.blocks.flatMap blkR := by
      have h1 := h.2.2.2
      generalize x.blocks = l at h1
      induction l with
      | nil => rfl
      | cons b l ih =>
        rw [List.all_cons, Bool.and_eq_true] at h1
        rw [List.flatMap_cons, List.flatMap_cons, List.flatMap_append, ih h1.2, blk_eq _ h1.1]
    rw [this]
    simp [funcO]
  · rfl
end Go.Proofs.YtmhmpobjjhbklaaGreatDoor.St
